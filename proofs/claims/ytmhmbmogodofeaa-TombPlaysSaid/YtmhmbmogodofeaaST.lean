import Derived.Test.YtmhmbmogodofeaaFy
import Derived.ProofKit
import Derived.Test.YtmhmbmogodofeaaRows
set_option linter.unusedVariables false
set_option maxRecDepth 100000
namespace Go.Proofs.Ytmhmbmogodofeaa.S
open Go.FS Go.RowKit
open Go.Proofs.Try (prog)
abbrev RsT (H:HeapI):=Option (List (Value×St H))
variable {H:HeapI}
variable (C:OracleJ H) (n:Nat) (E0 A0 B0 G0 D0 F0 I0 S0 T0 N0 J0 Q0 M0 R0 P0 X0 U0 V0 W0 Z0 B1 A1 I1 G1 F1 E1 D1 S1 W1 X1 Y1 Z1 T1 U1 A2 B2 D2 E2 F2 G2 V1 I2 J2 J1 M1 N1 P1 Q1 R1 M2 N2 P2 Q2 R2 S2 T2 V2 U2 W2 X2 Y2 Z2 A3 B3 Y0 D3:Value)
noncomputable abbrev dA (H:HeapI):Ops H:=dOps (H:=H) prog
noncomputable def f20 (O:Ops H) (C:OracleJ H) (n:Nat) (a0 a1:Value) (s:St H):RsT H :=
 (O.bop .lss 3 a1 (.int .i64 1)).bind fun v1 =>
 (O.boolO v1).bind fun b2=>cond b2 (
 some [((Value.int IntKind.i64 0),s)]) (
 (O.conv false s 3 70 a0).bind fun p3 =>
 (O.conv false p3.2 3 70 a1).bind fun p4 =>
 (O.bop .rem 70 p3.1 p4.1).bind fun v5 =>
 (O.conv false p4.2 70 3 v5).bind fun p6 =>
 some [(p6.1,p6.2)])
theorem f20_r (C:OracleJ H) (n:Nat) (a0 a1:Value) (s:St H):bodyD prog false C n 20 Try.f20 [a0,a1] s=f20 (dOps (H:=H) prog) C n a0 a1 s:=by kernel_rfl
noncomputable def f26 (O:Ops H) (C:OracleJ H) (n:Nat) (a0 a1:Value) (s:St H):RsT H :=
 (O.conv false s 35 9 a0).bind fun p1 =>
 (O.conv false p1.2 35 9 a1).bind fun p2 =>
 (O.bop .eql 9 p1.1 p2.1).bind fun v3 =>
 some [(v3,p2.2)]
theorem f26_r (C:OracleJ H) (n:Nat) (a0 a1:Value) (s:St H):bodyD prog false C n 26 Try.f26 [a0,a1] s=f26 (dOps (H:=H) prog) C n a0 a1 s:=by kernel_rfl
noncomputable def f45 (O:Ops H) (C:OracleJ H) (n:Nat) (s:St H):RsT H :=
 (C (.fn 46) [] s).bind fun L1=>manyK L1 fun v2 s3 =>
 (O.bop .eql 81 v2 (Go.Value.pointer none)).bind fun v4 =>
 (O.boolO v4).bind fun b5=>cond b5 (
 some [((.bool false),s3)]) (
 (O.build 69 [(0,(Value.int IntKind.i64 5)),(1,(Value.int IntKind.i64 9))]).bind fun v6 =>
 (O.buildSlice false s3 67 1 [(0,(Value.int IntKind.u64 3))]).bind fun p7 =>
 (C (.fn 47) [v2,v6,p7.1] p7.2).bind fun L8=>manyK L8 fun v9 s10 =>
 (O.build 69 [(0,(Value.int IntKind.i64 12)),(1,(Value.int IntKind.i64 20))]).bind fun v11 =>
 (O.buildSlice false s10 67 1 [(0,(Value.int IntKind.u64 3))]).bind fun p12 =>
 (C (.fn 47) [v2,v11,p12.1] p12.2).bind fun L13=>manyK L13 fun v14 s15 =>
 (O.build 69 [(0,(Value.int IntKind.i64 10)),(1,(Value.int IntKind.i64 11))]).bind fun v16 =>
 (O.buildSlice false s15 67 1 [(0,(Value.int IntKind.u64 3))]).bind fun p17 =>
 (C (.fn 47) [v2,v16,p17.1] p17.2).bind fun L18=>manyK L18 fun v19 s20 =>
 (O.bop .eql 26 v19 (.int .i64 0)).bind fun v21 =>
 gd v21 (
 (C (.fn 50) [v2,(Value.int IntKind.u64 3)] s20).bind fun L22=>manyK L22 fun v23 s24 =>
 (O.build 69 [(0,(Value.int IntKind.i64 5)),(1,(Value.int IntKind.i64 20))]).bind fun v25 =>
 (O.buildSlice false s24 80 1 [(0,v25)]).bind fun p26 =>
 (C (.fn 49) [v23,p26.1] p26.2).bind fun L27=>manyK L27 fun v28 s29 =>
 gd v28 (
 (C (.fn 48) [v2,(Value.int IntKind.u64 3),(Value.int IntKind.i64 11)] s29).bind fun L30=>manyK L30 fun v31 s32 =>
 gd v31 (
 (C (.fn 48) [v2,(Value.int IntKind.u64 3),(Value.int IntKind.i64 21)] s32).bind fun L33=>manyK L33 fun v34 s35 =>
 (O.uop .not v34).bind fun v36 =>
 gd v36 (
 (C (.fn 48) [v2,(Value.int IntKind.u64 4),(Value.int IntKind.i64 11)] s35).bind fun L37=>manyK L37 fun v38 s39 =>
 (O.uop .not v38).bind fun v40 =>
 some [(v40,s39)]) (
 some [((.bool false),s35)]) (
 none)) (
 some [((.bool false),s32)]) (
 none)) (
 some [((.bool false),s29)]) (
 none)) (
 some [((.bool false),s20)]) (
 none))
theorem f45_r (C:OracleJ H) (n:Nat) (s:St H):bodyD prog false C n 45 Try.f45 [] s=f45 (dOps (H:=H) prog) C n s:=by kernel_rfl
noncomputable def f46 (O:Ops H) (C:OracleJ H) (n:Nat) (s:St H):RsT H :=
 (O.makeMap s 156 none).bind fun p1 =>
 (O.build 158 [(0,p1.1)]).bind fun v2 =>
 (O.box p1.2 v2).bind fun p3 =>
 some [(p3.1,p3.2)]
theorem f46_r (C:OracleJ H) (n:Nat) (s:St H):bodyD prog false C n 46 Try.f46 [] s=f46 (dOps (H:=H) prog) C n s:=by kernel_rfl
def f47_l0_m (E0 A0 B0 D0 N0 J0 Q0 M0 R0 P0 X0 U0 V0 W0 Z0:Value) (x:Value×Value):List Value:=[E0,A0,B0,undefV,D0,undefV,(Value.int IntKind.i64 0),undefV,x.1,N0,J0,Q0,M0,R0,P0,X0,U0,V0,W0,Z0,x.2,dc,dc,dc,dc,dc,dc,dc,dc,dc,dc,dc,dc,dc,dc,dc,dc,dc,dc,dc,dc,dc]
noncomputable def f47_l0 (O:Ops H) (C:OracleJ H) (n:Nat) (E0 D0 W0 Z0:Value) (nx:(Value×Value)→St H→RsT H) (kx:Nat→(Value×Value)→St H→RsT H) (kr:(Value×Value)→St H→RsT H) (x:Value×Value) (s:St H):RsT H :=
 (O.bop .lss 3 x.2 Z0).bind fun v14 =>
 (O.boolO v14).bind fun b15=>cond b15 (
 (O.indexAddr 67 W0 x.2).bind fun v16 =>
 (O.load s 70 v16).bind fun v17 =>
 (O.nilCheck E0).bind fun v18 =>
 (O.fieldAddr 158 v18 0).bind fun v19 =>
 (O.load s 156 v19).bind fun v20 =>
 (O.nilCheck E0).bind fun v21 =>
 (O.fieldAddr 158 v21 0).bind fun v22 =>
 (O.load s 156 v22).bind fun v23 =>
 (O.lookup s 156 v23 v17 false).bind fun v24 =>
 (O.fieldAddr 69 D0 0).bind fun v25 =>
 (O.load s 3 v25).bind fun v26 =>
 (O.fieldAddr 69 D0 1).bind fun v27 =>
 (O.load s 3 v27).bind fun v28 =>
 (O.build 163 [(0,v26),(1,v28)]).bind fun v29 =>
 (oneO C (.fn 103) [v24,v29,(.func (.func 104) #[] #[])] s).bind fun p30 =>
 (O.mapUpdate p30.2 156 v20 v17 p30.1).bind fun s31 =>
 bif (eqO H (O.load s 156 v19) v20&&(eqO H (O.load p30.2 156 v19) v20&&(true)))&&(true) then
 (O.bop .add 3 x.2 (.int .i64 1)).bind fun v32 =>
 nx (v17,v32) s31
 else none) (
 kx 1 (x.1,x.2) s)
theorem f47_l0_b (x:Value×Value) (s:St H) (nx:List Value→St H→RsT H) (K:Ex→List Value→St H→RsT H) :
 exec prog false C n 47 none (cdp Try.f47 [1,1,0,1,0,0]) (f47_l0_m E0 A0 B0 D0 N0 J0 Q0 M0 R0 P0 X0 U0 V0 W0 Z0 x) s (kIter (scratch (cdp Try.f47 [1,1,0,1,0,0])) nx K)=f47_l0 (dOps (H:=H) prog) C n E0 D0 W0 Z0 (fun x s=>nx (f47_l0_m E0 A0 B0 D0 N0 J0 Q0 M0 R0 P0 X0 U0 V0 W0 Z0 x) s) (fun i x s=>K (.exit i) (f47_l0_m E0 A0 B0 D0 N0 J0 Q0 M0 R0 P0 X0 U0 V0 W0 Z0 x) s) (fun x s=>K .ret (f47_l0_m E0 A0 B0 D0 N0 J0 Q0 M0 R0 P0 X0 U0 V0 W0 Z0 x) s) x s:=by kernel_rfl
theorem f47_l0_e (m:Nat) (x:Value×Value) (s:St H) (K:Ex→List Value→St H→RsT H) :
 iter (fun t s k=>exec prog false C n 47 none (cdp Try.f47 [1,1,0,1,0,0]) t s k) (scratch (cdp Try.f47 [1,1,0,1,0,0])) m (f47_l0_m E0 A0 B0 D0 N0 J0 Q0 M0 R0 P0 X0 U0 V0 W0 Z0 x) s K=iterS (f47_l0 (dOps (H:=H) prog) C n E0 D0 W0 Z0) (fun i x s=>K (.exit i) (f47_l0_m E0 A0 B0 D0 N0 J0 Q0 M0 R0 P0 X0 U0 V0 W0 Z0 x) s) (fun x s=>K .ret (f47_l0_m E0 A0 B0 D0 N0 J0 Q0 M0 R0 P0 X0 U0 V0 W0 Z0 x) s) m x s :=
   iter_eq (f47_l0_m E0 A0 B0 D0 N0 J0 Q0 M0 R0 P0 X0 U0 V0 W0 Z0) (f47_l0 (dOps (H:=H) prog) C n E0 D0 W0 Z0) (fun x s nx K=>f47_l0_b C n E0 A0 B0 D0 N0 J0 Q0 M0 R0 P0 X0 U0 V0 W0 Z0 x s nx K) K m x s
noncomputable def f47 (O:Ops H) (C:OracleJ H) (n:Nat) (a0 a1 a2:Value) (s:St H):RsT H :=
 (O.box s a1).bind fun p1 =>
 (C (.fn 101) [a0] p1.2).bind fun L2=>manyK L2 fun v3 s4 =>
 (O.uop .not v3).bind fun v5 =>
 (O.boolO v5).bind fun b6=>cond b6 (
 some [((Value.int IntKind.i64 1),s4)]) (
 (O.load s4 69 p1.1).bind fun v7 =>
 (C (.fn 102) [v7,a2] s4).bind fun L8=>manyK L8 fun v9 s10 =>
 (O.uop .not v9).bind fun v11 =>
 (O.boolO v11).bind fun b12=>cond b12 (
 some [((Value.int IntKind.i64 2),s10)]) (
 (O.len s10 67 a2).bind fun v13 =>
 iterS (f47_l0 O C n a0 p1.1 a2 v13 )
 (fun U1 x34 s35=>(bif Nat.beq U1 1 then
 some [((Value.int IntKind.i64 0),s35)] else none))
 (fun x36 s37=>some [((Value.int IntKind.i64 0),s37)]) n (undefV,(Value.int IntKind.i64 0)) s10))
theorem f47_l0_k (i:Nat) (x:Value×Value) (s:St H):(kBlock 1 (kSeq prog false C n 47 none (cdp Try.f47 [1,1,1]) (kFun prog Try.f47))) (.exit i) (f47_l0_m E0 A0 B0 D0 N0 J0 Q0 M0 R0 P0 X0 U0 V0 W0 Z0 x) s =
 (bif Nat.beq i 1 then
 some [((Value.int IntKind.i64 0),s)] else none):=by kernel_rfl
theorem f47_r (C:OracleJ H) (n:Nat) (a0 a1 a2:Value) (s:St H):bodyD prog false C n 47 Try.f47 [a0,a1,a2] s=f47 (dOps (H:=H) prog) C n a0 a1 a2 s:=by
  have h1:bodyD prog false C n 47 Try.f47 [a0,a1,a2] s =
 ((dA H).box s a1).bind fun p38 =>
 (C (.fn 101) [a0] p38.2).bind fun L39=>manyK L39 fun v40 s41 =>
 ((dA H).uop .not v40).bind fun v42 =>
 ((dA H).boolO v42).bind fun b43=>cond b43 (
 some [((Value.int IntKind.i64 1),s41)]) (
 ((dA H).load s41 69 p38.1).bind fun v44 =>
 (C (.fn 102) [v44,a2] s41).bind fun L45=>manyK L45 fun v46 s47 =>
 ((dA H).uop .not v46).bind fun v48 =>
 ((dA H).boolO v48).bind fun b49=>cond b49 (
 some [((Value.int IntKind.i64 2),s47)]) (
 ((dA H).len s47 67 a2).bind fun v50 =>
 iter (fun t s k=>exec prog false C n 47 none (cdp Try.f47 [1,1,0,1,0,0]) t s k) (scratch (cdp Try.f47 [1,1,0,1,0,0])) n (f47_l0_m a0 a1 a2 p38.1 v42 a0 v40 v42 v48 v44 a2 v46 v48 a2 v50 (undefV,(Value.int IntKind.i64 0))) s47 (kBlock 1 (kSeq prog false C n 47 none (cdp Try.f47 [1,1,1]) (kFun prog Try.f47))))):=by kernel_rfl
  rw [h1]
  simp only [f47_l0_e,f47_l0_k]
  show _=f47 (dOps (H:=H) prog) C n a0 a1 a2 s
  kernel_rfl
noncomputable def f48 (O:Ops H) (C:OracleJ H) (n:Nat) (a0 a1 a2:Value) (s:St H):RsT H :=
 (O.box s a2).bind fun p1 =>
 (O.alloc p1.2 4).bind fun p2 =>
 (C (.fn 105) [a0,a1] p2.2).bind fun L3=>manyK L3 fun v4 s5 =>
 rngO prog O C 48 v4 [a0,a1,a2,undefV,undefV,p1.1,p2.1,undefV,a0,a1,v4,undefV,undefV,undefV,undefV,undefV,undefV,undefV,undefV,undefV,undefV,undefV] [11] (cdp Try.f48 [1,0,1,0,0]) (cdp Try.f48 [1,0,1,0,1]) s5
 (fun s6=>(O.store s6 4 p2.1 (.bool false)).bind fun s13 =>
 (O.load s13 4 p2.1).bind fun v14=>some [(v14,s13)])
 (fun s7=>(O.load s7 4 p2.1).bind fun v10=>some [(v10,s7)])
 (fun N0 s8=>(bif Nat.beq N0 0 then
 (O.store s8 4 p2.1 (.bool false)).bind fun s15 =>
 (O.load s15 4 p2.1).bind fun v16=>some [(v16,s15)] else none))
theorem f48_r (C:OracleJ H) (n:Nat) (a0 a1 a2:Value) (s:St H):bodyD prog false C n 48 Try.f48 [a0,a1,a2] s=f48 (dOps (H:=H) prog) C n a0 a1 a2 s:=by kernel_rfl
noncomputable def f48_r0 (O:Ops H) (C:OracleJ H) (n:Nat) (l:Nat) (I0 F0:Value) (x0:Value) (s:St H):RsT H :=
 (O.alloc s 69).bind fun p17 =>
 (O.store p17.2 69 p17.1 x0).bind fun s18 =>
 (beginD s18 l).bind fun s19 =>
 jn (fun (j115_21:Value) =>
 (O.boolO j115_21).bind fun b30=>cond b30 (
 (O.store s19 4 F0 (.bool true)).bind fun s31 =>
 (setLoopD s31 l 2 (some .ret)).map fun s=>[((.bool false),s)]) (
 (setLoopD s19 l 0 none).map fun s=>[((.bool true),s)])) fun k115 =>
 (O.load s19 3 I0).bind fun v20 =>
 (O.fieldAddr 69 p17.1 0).bind fun v21 =>
 (O.load s19 3 v21).bind fun v22 =>
 (O.bop .geq 3 v20 v22).bind fun v23 =>
 gd v23 (
 (O.load s19 3 I0).bind fun v24 =>
 (O.fieldAddr 69 p17.1 1).bind fun v25 =>
 (O.load s19 3 v25).bind fun v26 =>
 (O.bop .leq 3 v24 v26).bind fun v27 =>
 k115 v27) (
 k115 (.bool false)) (
 none)
theorem f48_r0_x (C:OracleJ H) (n:Nat) (l:Nat) (E0 A0 B0 G0 D0 I0 F0 S0 T0 N0 J0 Q0 M0 R0 P0 X0 U0 V0 W0 Z0 B1 A1:Value) (x0:Value) (s:St H):exec prog false C n 48 (some l) (cdp Try.f48 [1,0,1,0,0]) [E0,A0,B0,G0,D0,I0,F0,S0,T0,N0,J0,x0,M0,R0,P0,X0,U0,V0,W0,Z0,B1,A1] s (kAsg prog false C n 48 l (cdp Try.f48 [1,0,1,0,1]))=f48_r0 (dOps (H:=H) prog) C n l I0 F0 x0 s:=by kernel_rfl
theorem f48_r0_e {C:OracleJ H} {rw:FuncId→Bool} {n l:Nat} {pe:Option Code} {E0 A0 B0 G0 D0 I0 F0 S0 T0 N0 J0 Q0 M0 R0 P0 X0 U0 V0 W0 Z0 B1 A1:Value} {s:St H} (hrw:rw 48=false) (h:loopD s l=some (0,pe,48,[E0,A0,B0,G0,D0,I0,F0,S0,T0,N0,J0,Q0,M0,R0,P0,X0,U0,V0,W0,Z0,B1,A1],[11],cdp Try.f48 [1,0,1,0,0],cdp Try.f48 [1,0,1,0,1])) (x0:Value):roundD prog rw C n l [x0] s=f48_r0 (dOps (H:=H) prog) C n l I0 F0 x0 s:=by (unfold roundD; rw [h,bindS,hrw]; exact f48_r0_x C n l E0 A0 B0 G0 D0 I0 F0 S0 T0 N0 J0 Q0 M0 R0 P0 X0 U0 V0 W0 Z0 B1 A1 x0 s)
def f49_l0_m (E0 A0 F0 S0 T0 N0 J0:Value) (x:Value×Value):List Value:=[E0,A0,undefV,undefV,x.1,x.2,F0,S0,T0,N0,J0,dc,dc,dc,dc,dc,dc,dc,dc,dc,dc,dc,dc,dc,dc,dc]
noncomputable def f49_l0 (O:Ops H) (C:OracleJ H) (n:Nat) (E0 A0:Value) (nx:(Value×Value)→St H→RsT H) (kx:Nat→(Value×Value)→St H→RsT H) (kr:(Value×Value)→St H→RsT H) (x:Value×Value) (s:St H):RsT H :=
 (O.len s 80 E0).bind fun v5 =>
 (O.bop .lss 3 x.2 v5).bind fun v6 =>
 (O.boolO v6).bind fun b7=>cond b7 (
 (O.indexAddr 80 E0 x.2).bind fun v8 =>
 (O.load s 69 v8).bind fun v9 =>
 (O.indexAddr 80 A0 x.2).bind fun v10 =>
 (O.load s 69 v10).bind fun v11 =>
 (O.bop .neq 69 v9 v11).bind fun v12 =>
 (O.boolO v12).bind fun b13=>cond b13 (
 kr ((.bool false),x.2) s) (
 (O.bop .add 3 x.2 (.int .i64 1)).bind fun v14 =>
 nx (x.1,v14) s)) (
 kx 0 (x.1,x.2) s)
theorem f49_l0_b (x:Value×Value) (s:St H) (nx:List Value→St H→RsT H) (K:Ex→List Value→St H→RsT H) :
 exec prog false C n 49 none (cdp Try.f49 [1,1,0,1,0,0]) (f49_l0_m E0 A0 F0 S0 T0 N0 J0 x) s (kIter (scratch (cdp Try.f49 [1,1,0,1,0,0])) nx K)=f49_l0 (dOps (H:=H) prog) C n E0 A0 (fun x s=>nx (f49_l0_m E0 A0 F0 S0 T0 N0 J0 x) s) (fun i x s=>K (.exit i) (f49_l0_m E0 A0 F0 S0 T0 N0 J0 x) s) (fun x s=>K .ret (f49_l0_m E0 A0 F0 S0 T0 N0 J0 x) s) x s:=by kernel_rfl
theorem f49_l0_e (m:Nat) (x:Value×Value) (s:St H) (K:Ex→List Value→St H→RsT H) :
 iter (fun t s k=>exec prog false C n 49 none (cdp Try.f49 [1,1,0,1,0,0]) t s k) (scratch (cdp Try.f49 [1,1,0,1,0,0])) m (f49_l0_m E0 A0 F0 S0 T0 N0 J0 x) s K=iterS (f49_l0 (dOps (H:=H) prog) C n E0 A0) (fun i x s=>K (.exit i) (f49_l0_m E0 A0 F0 S0 T0 N0 J0 x) s) (fun x s=>K .ret (f49_l0_m E0 A0 F0 S0 T0 N0 J0 x) s) m x s :=
   iter_eq (f49_l0_m E0 A0 F0 S0 T0 N0 J0) (f49_l0 (dOps (H:=H) prog) C n E0 A0) (fun x s nx K=>f49_l0_b C n E0 A0 F0 S0 T0 N0 J0 x s nx K) K m x s
noncomputable def f49 (O:Ops H) (C:OracleJ H) (n:Nat) (a0 a1:Value) (s:St H):RsT H :=
 (O.len s 80 a0).bind fun v1 =>
 (O.len s 80 a1).bind fun v2 =>
 (O.bop .neq 3 v1 v2).bind fun v3 =>
 (O.boolO v3).bind fun b4=>cond b4 (
 some [((.bool false),s)]) (
 iterS (f49_l0 O C n a0 a1 )
 (fun X0 x16 s17=>(bif Nat.beq X0 0 then
 some [((.bool true),s17)] else none))
 (fun x18 s19=>some [(x18.1,s19)]) n ((.bool false),(Value.int IntKind.i64 0)) s)
theorem f49_l0_k (i:Nat) (x:Value×Value) (s:St H):(kBlock 0 (kSeq prog false C n 49 none (cdp Try.f49 [1,1,1]) (kFun prog Try.f49))) (.exit i) (f49_l0_m E0 A0 F0 S0 T0 N0 J0 x) s =
 (bif Nat.beq i 0 then
 some [((.bool true),s)] else none):=by kernel_rfl
theorem f49_r (C:OracleJ H) (n:Nat) (a0 a1:Value) (s:St H):bodyD prog false C n 49 Try.f49 [a0,a1] s=f49 (dOps (H:=H) prog) C n a0 a1 s:=by
  have h1:bodyD prog false C n 49 Try.f49 [a0,a1] s =
 ((dA H).len s 80 a0).bind fun v20 =>
 ((dA H).len s 80 a1).bind fun v21 =>
 ((dA H).bop .neq 3 v20 v21).bind fun v22 =>
 ((dA H).boolO v22).bind fun b23=>cond b23 (
 some [((.bool false),s)]) (
 iter (fun t s k=>exec prog false C n 49 none (cdp Try.f49 [1,1,0,1,0,0]) t s k) (scratch (cdp Try.f49 [1,1,0,1,0,0])) n (f49_l0_m a0 a1 a0 v20 a1 v21 v22 ((.bool false),(Value.int IntKind.i64 0))) s (kBlock 0 (kSeq prog false C n 49 none (cdp Try.f49 [1,1,1]) (kFun prog Try.f49)))):=by kernel_rfl
  rw [h1]
  simp only [f49_l0_e,f49_l0_k]
  show _=f49 (dOps (H:=H) prog) C n a0 a1 s
  kernel_rfl
noncomputable def f50 (O:Ops H) (C:OracleJ H) (n:Nat) (a0 a1:Value) (s:St H):RsT H :=
 (C (.fn 105) [a0,a1] s).bind fun L1=>manyK L1 fun v2 s3 =>
 (C (.fn 106) [v2] s3).bind fun L4=>manyK L4 fun v5 s6 =>
 some [(v5,s6)]
theorem f50_r (C:OracleJ H) (n:Nat) (a0 a1:Value) (s:St H):bodyD prog false C n 50 Try.f50 [a0,a1] s=f50 (dOps (H:=H) prog) C n a0 a1 s:=by kernel_rfl
def f51_l0_m (E0 A0 B0 D0 M0 R0 P0 U0 V0 W0 Z0 B1 A1 G1 F1 E1 D1:Value) (x:Value×Value×Value):List Value:=[E0,A0,B0,undefV,D0,undefV,x.1,x.2.1,x.2.2,undefV,undefV,undefV,M0,R0,P0,(.bool false),U0,V0,W0,Z0,B1,A1,(.bool false),G1,F1,E1,D1,dc,dc,dc,dc,dc,dc,dc,dc,dc,dc,dc,dc,dc,dc,dc,dc,undefV,undefV,undefV,undefV,undefV,undefV,undefV,undefV,undefV,undefV,undefV,undefV,undefV,undefV,undefV,undefV,undefV,undefV,undefV,undefV,undefV,undefV,undefV,undefV,undefV,undefV,undefV,undefV,undefV,undefV,undefV,undefV,undefV,undefV,undefV,undefV,undefV,undefV,undefV,undefV,undefV,undefV,undefV,undefV,undefV,undefV,undefV,undefV,undefV,undefV,undefV,undefV,undefV,undefV,undefV,undefV,undefV,undefV,undefV,undefV,undefV,undefV,undefV,undefV,undefV,undefV]
noncomputable def f51_l0 (O:Ops H) (C:OracleJ H) (n:Nat) (B0:Value) (nx:(Value×Value×Value)→St H→RsT H) (kx:Nat→(Value×Value×Value)→St H→RsT H) (kr:(Value×Value×Value)→St H→RsT H) (x:Value×Value×Value) (s:St H):RsT H :=
 (O.len s 67 B0).bind fun v17 =>
 (O.bop .lss 3 x.2.2 v17).bind fun v18 =>
 (O.boolO v18).bind fun b19=>cond b19 (
 (O.indexAddr 67 B0 x.2.2).bind fun v20 =>
 (O.load s 70 v20).bind fun v21 =>
 (O.bop .leq 70 v21 x.2.1).bind fun v22 =>
 (O.boolO v22).bind fun b23=>cond b23 (
 kr ((Value.int IntKind.i64 2),x.2.1,x.2.2) s) (
 (O.indexAddr 67 B0 x.2.2).bind fun v24 =>
 (O.load s 70 v24).bind fun v25 =>
 (O.bop .add 3 x.2.2 (.int .i64 1)).bind fun v26 =>
 nx (x.1,v25,v26) s)) (
 kx 0 (x.1,x.2.1,x.2.2) s)
theorem f51_l0_b (x:Value×Value×Value) (s:St H) (nx:List Value→St H→RsT H) (K:Ex→List Value→St H→RsT H) :
 exec prog false C n 51 none (cdp Try.f51 [1,1,1,0,1,0,0]) (f51_l0_m E0 A0 B0 D0 M0 R0 P0 U0 V0 W0 Z0 B1 A1 G1 F1 E1 D1 x) s (kIter (scratch (cdp Try.f51 [1,1,1,0,1,0,0])) nx K)=f51_l0 (dOps (H:=H) prog) C n B0 (fun x s=>nx (f51_l0_m E0 A0 B0 D0 M0 R0 P0 U0 V0 W0 Z0 B1 A1 G1 F1 E1 D1 x) s) (fun i x s=>K (.exit i) (f51_l0_m E0 A0 B0 D0 M0 R0 P0 U0 V0 W0 Z0 B1 A1 G1 F1 E1 D1 x) s) (fun x s=>K .ret (f51_l0_m E0 A0 B0 D0 M0 R0 P0 U0 V0 W0 Z0 B1 A1 G1 F1 E1 D1 x) s) x s:=by kernel_rfl
theorem f51_l0_e (m:Nat) (x:Value×Value×Value) (s:St H) (K:Ex→List Value→St H→RsT H) :
 iter (fun t s k=>exec prog false C n 51 none (cdp Try.f51 [1,1,1,0,1,0,0]) t s k) (scratch (cdp Try.f51 [1,1,1,0,1,0,0])) m (f51_l0_m E0 A0 B0 D0 M0 R0 P0 U0 V0 W0 Z0 B1 A1 G1 F1 E1 D1 x) s K=iterS (f51_l0 (dOps (H:=H) prog) C n B0) (fun i x s=>K (.exit i) (f51_l0_m E0 A0 B0 D0 M0 R0 P0 U0 V0 W0 Z0 B1 A1 G1 F1 E1 D1 x) s) (fun x s=>K .ret (f51_l0_m E0 A0 B0 D0 M0 R0 P0 U0 V0 W0 Z0 B1 A1 G1 F1 E1 D1 x) s) m x s :=
   iter_eq (f51_l0_m E0 A0 B0 D0 M0 R0 P0 U0 V0 W0 Z0 B1 A1 G1 F1 E1 D1) (f51_l0 (dOps (H:=H) prog) C n B0) (fun x s nx K=>f51_l0_b C n E0 A0 B0 D0 M0 R0 P0 U0 V0 W0 Z0 B1 A1 G1 F1 E1 D1 x s nx K) K m x s
def f51_l2_m (E0 A0 B0 D0 F0 S0 T0 N0 J0 M0 R0 P0 U0 V0 W0 Z0 B1 A1 G1 F1 E1 D1 J1 M1 N1 P1 M2 N2 P2 Q2 R2 S2 T2 V2 U2 W2 X2 Y2 Z2 A3 B3 Y0 D3:Value) (x:Value):List Value:=[E0,A0,B0,undefV,D0,undefV,F0,S0,T0,N0,J0,x,M0,R0,P0,(.bool false),U0,V0,W0,Z0,B1,A1,(.bool false),G1,F1,E1,D1,dc,dc,dc,dc,dc,dc,dc,dc,dc,dc,dc,dc,dc,dc,dc,dc,J1,M1,N1,P1,dc,dc,M2,N2,P2,Q2,R2,S2,T2,V2,U2,W2,X2,Y2,Z2,A3,B3,Y0,D3,dc,dc,dc,dc,dc,dc,dc,dc,dc,dc,dc,dc,dc,dc,dc,dc,dc,dc,dc,dc,dc,dc,dc,dc,dc,dc,dc,dc,dc,dc,dc,dc,dc,dc,dc,dc,dc,dc,dc,dc,dc,dc,dc]
noncomputable def f51_l2 (O:Ops H) (C:OracleJ H) (n:Nat) (E0 J0 Y0:Value) (nx:Value→St H→RsT H) (kx:Nat→Value→St H→RsT H) (kr:Value→St H→RsT H) (x:Value) (s:St H):RsT H :=
 jn (fun (j178_85:Value) =>
 (O.boolO j178_85).bind fun b66=>cond b66 (
 (O.bop .add 3 x (.int .i64 1)).bind fun v67 =>
 nx v67 s) (
 kx 4 x s)) fun k178 =>
 (O.nilCheck E0).bind fun v50 =>
 (O.fieldAddr 93 v50 0).bind fun v51 =>
 (O.load s 91 v51).bind fun v52 =>
 (O.len s 91 v52).bind fun v53 =>
 (O.bop .lss 3 x v53).bind fun v54 =>
 gd v54 (
 (O.nilCheck E0).bind fun v55 =>
 (O.fieldAddr 93 v55 0).bind fun v56 =>
 (O.load s 91 v56).bind fun v57 =>
 (O.indexAddr 91 v57 x).bind fun v58 =>
 (O.fieldAddr 171 v58 0).bind fun v59 =>
 (O.load s 70 v59).bind fun v60 =>
 (O.fieldAddr 171 J0 0).bind fun v61 =>
 (O.load s 70 v61).bind fun v62 =>
 (O.bop .lss 70 v60 v62).bind fun v63 =>
 k178 v63) (
 k178 (.bool false)) (
 none)
theorem f51_l2_b (x:Value) (s:St H) (nx:List Value→St H→RsT H) (K:Ex→List Value→St H→RsT H) :
 exec prog false C n 51 none (cdp Try.f51 [1,1,1,1,0,1,0,0,1,0,0,1,1,1,0,0,0]) (f51_l2_m E0 A0 B0 D0 F0 S0 T0 N0 J0 M0 R0 P0 U0 V0 W0 Z0 B1 A1 G1 F1 E1 D1 J1 M1 N1 P1 M2 N2 P2 Q2 R2 S2 T2 V2 U2 W2 X2 Y2 Z2 A3 B3 Y0 D3 x) s (kIter (scratch (cdp Try.f51 [1,1,1,1,0,1,0,0,1,0,0,1,1,1,0,0,0])) nx K)=f51_l2 (dOps (H:=H) prog) C n E0 J0 Y0 (fun x s=>nx (f51_l2_m E0 A0 B0 D0 F0 S0 T0 N0 J0 M0 R0 P0 U0 V0 W0 Z0 B1 A1 G1 F1 E1 D1 J1 M1 N1 P1 M2 N2 P2 Q2 R2 S2 T2 V2 U2 W2 X2 Y2 Z2 A3 B3 Y0 D3 x) s) (fun i x s=>K (.exit i) (f51_l2_m E0 A0 B0 D0 F0 S0 T0 N0 J0 M0 R0 P0 U0 V0 W0 Z0 B1 A1 G1 F1 E1 D1 J1 M1 N1 P1 M2 N2 P2 Q2 R2 S2 T2 V2 U2 W2 X2 Y2 Z2 A3 B3 Y0 D3 x) s) (fun x s=>K .ret (f51_l2_m E0 A0 B0 D0 F0 S0 T0 N0 J0 M0 R0 P0 U0 V0 W0 Z0 B1 A1 G1 F1 E1 D1 J1 M1 N1 P1 M2 N2 P2 Q2 R2 S2 T2 V2 U2 W2 X2 Y2 Z2 A3 B3 Y0 D3 x) s) x s:=by kernel_rfl
theorem f51_l2_e (m:Nat) (x:Value) (s:St H) (K:Ex→List Value→St H→RsT H) :
 iter (fun t s k=>exec prog false C n 51 none (cdp Try.f51 [1,1,1,1,0,1,0,0,1,0,0,1,1,1,0,0,0]) t s k) (scratch (cdp Try.f51 [1,1,1,1,0,1,0,0,1,0,0,1,1,1,0,0,0])) m (f51_l2_m E0 A0 B0 D0 F0 S0 T0 N0 J0 M0 R0 P0 U0 V0 W0 Z0 B1 A1 G1 F1 E1 D1 J1 M1 N1 P1 M2 N2 P2 Q2 R2 S2 T2 V2 U2 W2 X2 Y2 Z2 A3 B3 Y0 D3 x) s K=iterS (f51_l2 (dOps (H:=H) prog) C n E0 J0 Y0) (fun i x s=>K (.exit i) (f51_l2_m E0 A0 B0 D0 F0 S0 T0 N0 J0 M0 R0 P0 U0 V0 W0 Z0 B1 A1 G1 F1 E1 D1 J1 M1 N1 P1 M2 N2 P2 Q2 R2 S2 T2 V2 U2 W2 X2 Y2 Z2 A3 B3 Y0 D3 x) s) (fun x s=>K .ret (f51_l2_m E0 A0 B0 D0 F0 S0 T0 N0 J0 M0 R0 P0 U0 V0 W0 Z0 B1 A1 G1 F1 E1 D1 J1 M1 N1 P1 M2 N2 P2 Q2 R2 S2 T2 V2 U2 W2 X2 Y2 Z2 A3 B3 Y0 D3 x) s) m x s :=
   iter_eq (f51_l2_m E0 A0 B0 D0 F0 S0 T0 N0 J0 M0 R0 P0 U0 V0 W0 Z0 B1 A1 G1 F1 E1 D1 J1 M1 N1 P1 M2 N2 P2 Q2 R2 S2 T2 V2 U2 W2 X2 Y2 Z2 A3 B3 Y0 D3) (f51_l2 (dOps (H:=H) prog) C n E0 J0 Y0) (fun x s nx K=>f51_l2_b C n E0 A0 B0 D0 F0 S0 T0 N0 J0 M0 R0 P0 U0 V0 W0 Z0 B1 A1 G1 F1 E1 D1 J1 M1 N1 P1 M2 N2 P2 Q2 R2 S2 T2 V2 U2 W2 X2 Y2 Z2 A3 B3 Y0 D3 x s nx K) K m x s
def f51_l1_m (E0 A0 B0 D0 F0 S0 T0 M0 R0 P0 U0 V0 W0 Z0 B1 A1 G1 F1 E1 D1:Value) (x:Value×Value):List Value:=[E0,A0,B0,undefV,D0,undefV,F0,S0,T0,x.1,dc,x.2,M0,R0,P0,(.bool false),U0,V0,W0,Z0,B1,A1,(.bool false),G1,F1,E1,D1,dc,dc,dc,dc,dc,dc,dc,dc,dc,dc,dc,dc,dc,dc,dc,dc,dc,dc,dc,dc,dc,dc,dc,dc,dc,dc,dc,dc,dc,dc,dc,dc,dc,dc,dc,dc,dc,dc,dc,dc,dc,dc,dc,dc,dc,dc,dc,dc,dc,dc,dc,dc,dc,dc,dc,dc,dc,dc,dc,dc,dc,dc,dc,dc,dc,dc,dc,dc,dc,dc,dc,dc,dc,dc,dc,dc,dc,dc,dc,dc,dc,dc]
noncomputable def f51_l1 (O:Ops H) (C:OracleJ H) (n:Nat) (E0 B0 D0:Value) (nx:(Value×Value)→St H→RsT H) (kx:Nat→(Value×Value)→St H→RsT H) (kr:(Value×Value)→St H→RsT H) (x:Value×Value) (s:St H):RsT H :=
 (O.len s 67 B0).bind fun v32 =>
 (O.bop .lss 3 x.1 v32).bind fun v33 =>
 (O.boolO v33).bind fun b34=>cond b34 (
 (O.indexAddr 67 B0 x.1).bind fun v35 =>
 (O.load s 70 v35).bind fun v36 =>
 (O.indexAddr 67 B0 x.1).bind fun v37 =>
 (O.load s 70 v37).bind fun v38 =>
 (oneO C (.fn 57) [E0,v38] s).bind fun p39 =>
 (O.load p39.2 69 D0).bind fun v40 =>
 (oneO C (.fn 107) [p39.1,v40] p39.2).bind fun p41 =>
 (O.build 171 [(0,v36),(1,p41.1)]).bind fun v42 =>
 (O.alloc p41.2 171).bind fun p43 =>
 (O.store p43.2 171 p43.1 v42).bind fun s44 =>
 bif (eqO H (O.load s 69 D0) v40&&(eqO H (O.load p39.2 69 D0) v40&&(eqO H (O.load p41.2 69 D0) v40&&(true))))&&((eqO H (O.load s 70 v37) v38&&(eqO H (O.load p39.2 70 v37) v38&&(true)))&&((eqO H (O.load s 70 v35) v36&&(eqO H (O.load p39.2 70 v35) v36&&(eqO H (O.load p41.2 70 v35) v36&&(eqO H (O.load p43.2 70 v35) v36&&(true)))))&&(true))) then
 (O.fieldAddr 171 p43.1 0).bind fun v45 =>
 (O.load s44 70 v45).bind fun v46 =>
 (C (.fn 53) [E0,v46] s44).bind fun L47=>manyK L47 fun v48 s49 =>
 iterS (f51_l2 O C n E0 p43.1 v46 )
 (fun F3 x69 s70=>(bif Nat.beq F3 4 then
 (O.buildSlice false s70 91 0 []).bind fun p73 =>
 (O.nilCheck E0).bind fun v74 =>
 (O.fieldAddr 93 v74 0).bind fun v75 =>
 (O.load p73.2 91 v75).bind fun v76 =>
 (O.slc p73.2 91 v76 none (some x69) none).bind fun v77 =>
 (O.append false p73.2 91 91 p73.1 v77).bind fun p78 =>
 (O.load p78.2 171 p43.1).bind fun v79 =>
 (O.buildSlice false p78.2 91 1 [(0,v79)]).bind fun p80 =>
 (O.append false p80.2 91 91 p78.1 p80.1).bind fun p81 =>
 (O.nilCheck E0).bind fun v82 =>
 (O.fieldAddr 93 v82 0).bind fun v83 =>
 (O.load p81.2 91 v83).bind fun v84 =>
 (O.slc p81.2 91 v84 (some x69) none none).bind fun v85 =>
 (O.append false p81.2 91 91 p81.1 v85).bind fun p86 =>
 (O.nilCheck E0).bind fun v87 =>
 (O.fieldAddr 93 v87 0).bind fun v88 =>
 (O.store p86.2 91 v88 p86.1).bind fun s89 =>
 bif (eqO H (O.load s70 91 v83) v84&&(eqO H (O.load p78.2 91 v83) v84&&(eqO H (O.load p81.2 91 v83) v84&&(true))))&&((eqO H (O.load s70 171 p43.1) v79&&(eqO H (O.load p78.2 171 p43.1) v79&&(true)))&&(true)) then
 (O.bop .add 3 x.1 (.int .i64 1)).bind fun v92 =>
 nx (v92,x69) s89
 else none else (bif Nat.beq F3 3 then
 (O.bop .add 3 x.1 (.int .i64 1)).bind fun v91 =>
 nx (v91,x69) s70 else kx F3 (x.1,x69) s70)))
 (fun x71 s72=>kr (x.1,x71) s72) n (Value.int IntKind.i64 0) s49
 else none) (
 kx 2 (x.1,x.2) s)
theorem f51_l2_k (nx:List Value→St H→RsT H) (K:Ex→List Value→St H→RsT H) (i:Nat) (x:Value) (s:St H):(kBlock 4 (kSeq prog false C n 51 none (cdp Try.f51 [1,1,1,1,0,1,0,0,1,0,0,1,1,1,1]) (kBlock 3 (kSeq prog false C n 51 none (cdp Try.f51 [1,1,1,1,0,1,0,0,1,1]) (kIter (scratch (cdp Try.f51 [1,1,1,1,0,1,0,0])) nx K))))) (.exit i) (f51_l2_m E0 A0 B0 D0 F0 S0 T0 N0 J0 M0 R0 P0 U0 V0 W0 Z0 B1 A1 G1 F1 E1 D1 J1 M1 N1 P1 M2 N2 P2 Q2 R2 S2 T2 V2 U2 W2 X2 Y2 Z2 A3 B3 Y0 D3 x) s =
 (bif Nat.beq i 4 then
 ((dA H).buildSlice false s 91 0 []).bind fun p130 =>
 ((dA H).nilCheck E0).bind fun v131 =>
 ((dA H).fieldAddr 93 v131 0).bind fun v132 =>
 ((dA H).load p130.2 91 v132).bind fun v133 =>
 ((dA H).slc p130.2 91 v133 none (some x) none).bind fun v134 =>
 ((dA H).append false p130.2 91 91 p130.1 v134).bind fun p135 =>
 ((dA H).load p135.2 171 J0).bind fun v136 =>
 ((dA H).buildSlice false p135.2 91 1 [(0,v136)]).bind fun p137 =>
 ((dA H).append false p137.2 91 91 p135.1 p137.1).bind fun p138 =>
 ((dA H).nilCheck E0).bind fun v139 =>
 ((dA H).fieldAddr 93 v139 0).bind fun v140 =>
 ((dA H).load p138.2 91 v140).bind fun v141 =>
 ((dA H).slc p138.2 91 v141 (some x) none none).bind fun v142 =>
 ((dA H).append false p138.2 91 91 p138.1 v142).bind fun p143 =>
 ((dA H).nilCheck E0).bind fun v144 =>
 ((dA H).fieldAddr 93 v144 0).bind fun v145 =>
 ((dA H).store p143.2 91 v145 p143.1).bind fun s146 =>
 bif (eqO H ((dA H).load s 91 v140) v141&&(eqO H ((dA H).load p135.2 91 v140) v141&&(eqO H ((dA H).load p138.2 91 v140) v141&&(true))))&&((eqO H ((dA H).load s 171 J0) v136&&(eqO H ((dA H).load p135.2 171 J0) v136&&(true)))&&(true)) then
 ((dA H).bop .add 3 N0 (.int .i64 1)).bind fun v147 =>
 nx (f51_l1_m E0 A0 B0 D0 F0 S0 T0 M0 R0 P0 U0 V0 W0 Z0 B1 A1 G1 F1 E1 D1 (v147,x)) s146
 else none else (bif Nat.beq i 3 then
 ((dA H).bop .add 3 N0 (.int .i64 1)).bind fun v148 =>
 nx (f51_l1_m E0 A0 B0 D0 F0 S0 T0 M0 R0 P0 U0 V0 W0 Z0 B1 A1 G1 F1 E1 D1 (v148,x)) s else K (.exit i) (f51_l1_m E0 A0 B0 D0 F0 S0 T0 M0 R0 P0 U0 V0 W0 Z0 B1 A1 G1 F1 E1 D1 (N0,x)) s)):=by kernel_rfl
theorem f51_l1_b (x:Value×Value) (s:St H) (nx:List Value→St H→RsT H) (K:Ex→List Value→St H→RsT H) :
 exec prog false C n 51 none (cdp Try.f51 [1,1,1,1,0,1,0,0]) (f51_l1_m E0 A0 B0 D0 F0 S0 T0 M0 R0 P0 U0 V0 W0 Z0 B1 A1 G1 F1 E1 D1 x) s (kIter (scratch (cdp Try.f51 [1,1,1,1,0,1,0,0])) nx K)=f51_l1 (dOps (H:=H) prog) C n E0 B0 D0 (fun x s=>nx (f51_l1_m E0 A0 B0 D0 F0 S0 T0 M0 R0 P0 U0 V0 W0 Z0 B1 A1 G1 F1 E1 D1 x) s) (fun i x s=>K (.exit i) (f51_l1_m E0 A0 B0 D0 F0 S0 T0 M0 R0 P0 U0 V0 W0 Z0 B1 A1 G1 F1 E1 D1 x) s) (fun x s=>K .ret (f51_l1_m E0 A0 B0 D0 F0 S0 T0 M0 R0 P0 U0 V0 W0 Z0 B1 A1 G1 F1 E1 D1 x) s) x s:=by
  have h1:exec prog false C n 51 none (cdp Try.f51 [1,1,1,1,0,1,0,0]) (f51_l1_m E0 A0 B0 D0 F0 S0 T0 M0 R0 P0 U0 V0 W0 Z0 B1 A1 G1 F1 E1 D1 x) s (kIter (scratch (cdp Try.f51 [1,1,1,1,0,1,0,0])) nx K) =
 ((dA H).len s 67 B0).bind fun v93 =>
 ((dA H).bop .lss 3 x.1 v93).bind fun v94 =>
 ((dA H).boolO v94).bind fun b95=>cond b95 (
 ((dA H).indexAddr 67 B0 x.1).bind fun v96 =>
 ((dA H).load s 70 v96).bind fun v97 =>
 ((dA H).indexAddr 67 B0 x.1).bind fun v98 =>
 ((dA H).load s 70 v98).bind fun v99 =>
 (oneO C (.fn 57) [E0,v99] s).bind fun p100 =>
 ((dA H).load p100.2 69 D0).bind fun v101 =>
 (oneO C (.fn 107) [p100.1,v101] p100.2).bind fun p102 =>
 ((dA H).build 171 [(0,v97),(1,p102.1)]).bind fun v103 =>
 ((dA H).alloc p102.2 171).bind fun p104 =>
 ((dA H).store p104.2 171 p104.1 v103).bind fun s105 =>
 bif (eqO H ((dA H).load s 69 D0) v101&&(eqO H ((dA H).load p100.2 69 D0) v101&&(eqO H ((dA H).load p102.2 69 D0) v101&&(true))))&&((eqO H ((dA H).load s 70 v98) v99&&(eqO H ((dA H).load p100.2 70 v98) v99&&(true)))&&((eqO H ((dA H).load s 70 v96) v97&&(eqO H ((dA H).load p100.2 70 v96) v97&&(eqO H ((dA H).load p102.2 70 v96) v97&&(eqO H ((dA H).load p104.2 70 v96) v97&&(true)))))&&(true))) then
 ((dA H).fieldAddr 171 p104.1 0).bind fun v106 =>
 ((dA H).load s105 70 v106).bind fun v107 =>
 (C (.fn 53) [E0,v107] s105).bind fun L108=>manyK L108 fun v109 s110 =>
 iter (fun t s k=>exec prog false C n 51 none (cdp Try.f51 [1,1,1,1,0,1,0,0,1,0,0,1,1,1,0,0,0]) t s k) (scratch (cdp Try.f51 [1,1,1,1,0,1,0,0,1,0,0,1,1,1,0,0,0])) n (f51_l2_m E0 A0 B0 D0 F0 S0 T0 x.1 p104.1 M0 R0 P0 U0 V0 W0 Z0 B1 A1 G1 F1 E1 D1 x.1 B0 v93 v94 B0 x.1 v96 v97 E0 B0 x.1 v98 v99 p100.1 v101 p102.1 v103 E0 v106 v107 v109 (Value.int IntKind.i64 0)) s110 (kBlock 4 (kSeq prog false C n 51 none (cdp Try.f51 [1,1,1,1,0,1,0,0,1,0,0,1,1,1,1]) (kBlock 3 (kSeq prog false C n 51 none (cdp Try.f51 [1,1,1,1,0,1,0,0,1,1]) (kIter (scratch (cdp Try.f51 [1,1,1,1,0,1,0,0])) nx K)))))
 else none) (
 K (.exit 2) (f51_l1_m E0 A0 B0 D0 F0 S0 T0 M0 R0 P0 U0 V0 W0 Z0 B1 A1 G1 F1 E1 D1 (x.1,x.2)) s):=by kernel_rfl
  rw [h1]
  simp only [f51_l2_e,f51_l2_k]
  show _=f51_l1 (dOps (H:=H) prog) C n E0 B0 D0 (fun x s=>nx (f51_l1_m E0 A0 B0 D0 F0 S0 T0 M0 R0 P0 U0 V0 W0 Z0 B1 A1 G1 F1 E1 D1 x) s) (fun i x s=>K (.exit i) (f51_l1_m E0 A0 B0 D0 F0 S0 T0 M0 R0 P0 U0 V0 W0 Z0 B1 A1 G1 F1 E1 D1 x) s) (fun x s=>K .ret (f51_l1_m E0 A0 B0 D0 F0 S0 T0 M0 R0 P0 U0 V0 W0 Z0 B1 A1 G1 F1 E1 D1 x) s) x s
  kernel_rfl
theorem f51_l1_e (m:Nat) (x:Value×Value) (s:St H) (K:Ex→List Value→St H→RsT H) :
 iter (fun t s k=>exec prog false C n 51 none (cdp Try.f51 [1,1,1,1,0,1,0,0]) t s k) (scratch (cdp Try.f51 [1,1,1,1,0,1,0,0])) m (f51_l1_m E0 A0 B0 D0 F0 S0 T0 M0 R0 P0 U0 V0 W0 Z0 B1 A1 G1 F1 E1 D1 x) s K=iterS (f51_l1 (dOps (H:=H) prog) C n E0 B0 D0) (fun i x s=>K (.exit i) (f51_l1_m E0 A0 B0 D0 F0 S0 T0 M0 R0 P0 U0 V0 W0 Z0 B1 A1 G1 F1 E1 D1 x) s) (fun x s=>K .ret (f51_l1_m E0 A0 B0 D0 F0 S0 T0 M0 R0 P0 U0 V0 W0 Z0 B1 A1 G1 F1 E1 D1 x) s) m x s :=
   iter_eq (f51_l1_m E0 A0 B0 D0 F0 S0 T0 M0 R0 P0 U0 V0 W0 Z0 B1 A1 G1 F1 E1 D1) (f51_l1 (dOps (H:=H) prog) C n E0 B0 D0) (fun x s nx K=>f51_l1_b C n E0 A0 B0 D0 F0 S0 T0 M0 R0 P0 U0 V0 W0 Z0 B1 A1 G1 F1 E1 D1 x s nx K) K m x s
noncomputable def f51 (O:Ops H) (C:OracleJ H) (n:Nat) (a0 a1 a2:Value) (s:St H):RsT H :=
 (O.box s a1).bind fun p1 =>
 (O.fieldAddr 69 p1.1 0).bind fun v2 =>
 (O.load p1.2 3 v2).bind fun v3 =>
 (O.bop .lss 3 v3 (.int .i64 0)).bind fun v4 =>
 gd v4 (
 some [((Value.int IntKind.i64 2),p1.2)]) (
 (O.fieldAddr 69 p1.1 0).bind fun v5 =>
 (O.load p1.2 3 v5).bind fun v6 =>
 (O.fieldAddr 69 p1.1 1).bind fun v7 =>
 (O.load p1.2 3 v7).bind fun v8 =>
 (O.bop .gtr 3 v6 v8).bind fun v9 =>
 gd v9 (
 some [((Value.int IntKind.i64 2),p1.2)]) (
 (O.fieldAddr 69 p1.1 1).bind fun v10 =>
 (O.load p1.2 3 v10).bind fun v11 =>
 (O.bop .gtr 3 v11 (.int .i64 35184372088832)).bind fun v12 =>
 (O.boolO v12).bind fun b16=>cond b16 (
 some [((Value.int IntKind.i64 2),p1.2)]) (
 iterS (f51_l0 O C n a2 )
 (fun S1 x28 s29=>(bif Nat.beq S1 0 then
 iterS (f51_l1 O C n a0 a2 p1.1 )
 (fun M3 x150 s151=>(bif Nat.beq M3 2 then
 some [((Value.int IntKind.i64 0),s151)] else none))
 (fun x152 s153=>some [(x28.1,s153)]) n ((Value.int IntKind.i64 0),undefV) s29 else none))
 (fun x30 s31=>some [(x30.1,s31)]) n ((Value.int IntKind.i64 0),(Value.int IntKind.u64 0),(Value.int IntKind.i64 0)) p1.2)) (
 none)) (
 none)
theorem f51_l1_k (i:Nat) (x:Value×Value) (s:St H):(kBlock 2 (kSeq prog false C n 51 none (cdp Try.f51 [1,1,1,1,1]) (kFun prog Try.f51))) (.exit i) (f51_l1_m E0 A0 B0 D0 F0 S0 T0 M0 R0 P0 U0 V0 W0 Z0 B1 A1 G1 F1 E1 D1 x) s =
 (bif Nat.beq i 2 then
 some [((Value.int IntKind.i64 0),s)] else none):=by kernel_rfl
theorem f51_l0_k (i:Nat) (x:Value×Value×Value) (s:St H):(kBlock 0 (kSeq prog false C n 51 none (cdp Try.f51 [1,1,1,1]) (kFun prog Try.f51))) (.exit i) (f51_l0_m E0 A0 B0 D0 M0 R0 P0 U0 V0 W0 Z0 B1 A1 G1 F1 E1 D1 x) s =
 (bif Nat.beq i 0 then
 iterS (f51_l1 (dOps (H:=H) prog) C n E0 B0 D0 )
 (fun E3 x171 s172=>(bif Nat.beq E3 2 then
 some [((Value.int IntKind.i64 0),s172)] else none))
 (fun x173 s174=>some [(x.1,s174)]) n ((Value.int IntKind.i64 0),undefV) s else none):=by
  have h1:(kBlock 0 (kSeq prog false C n 51 none (cdp Try.f51 [1,1,1,1]) (kFun prog Try.f51))) (.exit i) (f51_l0_m E0 A0 B0 D0 M0 R0 P0 U0 V0 W0 Z0 B1 A1 G1 F1 E1 D1 x) s =
 (bif Nat.beq i 0 then
 iter (fun t s k=>exec prog false C n 51 none (cdp Try.f51 [1,1,1,1,0,1,0,0]) t s k) (scratch (cdp Try.f51 [1,1,1,1,0,1,0,0])) n (f51_l1_m E0 A0 B0 D0 x.1 x.2.1 x.2.2 M0 R0 P0 U0 V0 W0 Z0 B1 A1 G1 F1 E1 D1 ((Value.int IntKind.i64 0),undefV)) s (kBlock 2 (kSeq prog false C n 51 none (cdp Try.f51 [1,1,1,1,1]) (kFun prog Try.f51))) else none):=by kernel_rfl
  rw [h1]
  simp only [f51_l1_e,f51_l1_k]
  show _=(bif Nat.beq i 0 then
 iterS (f51_l1 (dOps (H:=H) prog) C n E0 B0 D0 )
 (fun E3 x171 s172=>(bif Nat.beq E3 2 then
 some [((Value.int IntKind.i64 0),s172)] else none))
 (fun x173 s174=>some [(x.1,s174)]) n ((Value.int IntKind.i64 0),undefV) s else none)
  kernel_rfl
theorem f51_r (C:OracleJ H) (n:Nat) (a0 a1 a2:Value) (s:St H):bodyD prog false C n 51 Try.f51 [a0,a1,a2] s=f51 (dOps (H:=H) prog) C n a0 a1 a2 s:=by
  have h1:bodyD prog false C n 51 Try.f51 [a0,a1,a2] s =
 ((dA H).box s a1).bind fun p154 =>
 ((dA H).fieldAddr 69 p154.1 0).bind fun v155 =>
 ((dA H).load p154.2 3 v155).bind fun v156 =>
 ((dA H).bop .lss 3 v156 (.int .i64 0)).bind fun v157 =>
 gd v157 (
 some [((Value.int IntKind.i64 2),p154.2)]) (
 ((dA H).fieldAddr 69 p154.1 0).bind fun v158 =>
 ((dA H).load p154.2 3 v158).bind fun v159 =>
 ((dA H).fieldAddr 69 p154.1 1).bind fun v160 =>
 ((dA H).load p154.2 3 v160).bind fun v161 =>
 ((dA H).bop .gtr 3 v159 v161).bind fun v162 =>
 gd v162 (
 some [((Value.int IntKind.i64 2),p154.2)]) (
 ((dA H).fieldAddr 69 p154.1 1).bind fun v163 =>
 ((dA H).load p154.2 3 v163).bind fun v164 =>
 ((dA H).bop .gtr 3 v164 (.int .i64 35184372088832)).bind fun v165 =>
 ((dA H).boolO v165).bind fun b169=>cond b169 (
 some [((Value.int IntKind.i64 2),p154.2)]) (
 iter (fun t s k=>exec prog false C n 51 none (cdp Try.f51 [1,1,1,0,1,0,0]) t s k) (scratch (cdp Try.f51 [1,1,1,0,1,0,0])) n (f51_l0_m a0 a1 a2 p154.1 v155 v156 v157 v158 v159 v160 v161 v162 v162 v163 v164 v165 v165 ((Value.int IntKind.i64 0),(Value.int IntKind.u64 0),(Value.int IntKind.i64 0))) p154.2 (kBlock 0 (kSeq prog false C n 51 none (cdp Try.f51 [1,1,1,1]) (kFun prog Try.f51))))) (
 none)) (
 none):=by kernel_rfl
  rw [h1]
  simp only [f51_l0_e,f51_l0_k]
  show _=f51 (dOps (H:=H) prog) C n a0 a1 a2 s
  kernel_rfl
noncomputable def f52 (O:Ops H) (C:OracleJ H) (n:Nat) (a0 a1:Value) (s:St H):RsT H :=
 (C (.fn 101) [a0] s).bind fun L1=>manyK L1 fun v2 s3 =>
 (O.boolO v2).bind fun b4=>cond b4 (
 (O.nilCheck a0).bind fun v5 =>
 (O.fieldAddr 158 v5 0).bind fun v6 =>
 (O.load s3 156 v6).bind fun v7 =>
 (O.delete s3 156 v7 a1).bind fun s8 =>
 some [(.tuple #[],s8)]) (
 some [(.tuple #[],s3)])
theorem f52_r (C:OracleJ H) (n:Nat) (a0 a1:Value) (s:St H):bodyD prog false C n 52 Try.f52 [a0,a1] s=f52 (dOps (H:=H) prog) C n a0 a1 s:=by kernel_rfl
def f53_l0_m (E0 A0 F0:Value) (x:Value×Value):List Value:=[E0,A0,undefV,undefV,x.1,x.2,F0,dc,dc,dc,dc,dc,dc,dc,dc,dc,dc,dc,dc,dc,dc,dc,dc,dc,dc,dc,dc,dc,dc,dc,dc,dc,dc,dc,dc,dc,undefV,undefV,undefV,undefV]
noncomputable def f53_l0 (O:Ops H) (C:OracleJ H) (n:Nat) (E0 A0:Value) (nx:(Value×Value)→St H→RsT H) (kx:Nat→(Value×Value)→St H→RsT H) (kr:(Value×Value)→St H→RsT H) (x:Value×Value) (s:St H):RsT H :=
 (O.nilCheck E0).bind fun v2 =>
 (O.fieldAddr 93 v2 0).bind fun v3 =>
 (O.load s 91 v3).bind fun v4 =>
 (O.len s 91 v4).bind fun v5 =>
 (O.bop .lss 3 x.2 v5).bind fun v6 =>
 (O.boolO v6).bind fun b7=>cond b7 (
 (O.nilCheck E0).bind fun v8 =>
 (O.fieldAddr 93 v8 0).bind fun v9 =>
 (O.load s 91 v9).bind fun v10 =>
 (O.indexAddr 91 v10 x.2).bind fun v11 =>
 (O.fieldAddr 171 v11 0).bind fun v12 =>
 (O.load s 70 v12).bind fun v13 =>
 (O.bop .neq 70 v13 A0).bind fun v14 =>
 jn (fun (j230_4:Value) (js230:St H) =>
 (O.bop .add 3 x.2 (.int .i64 1)).bind fun v23 =>
 nx (j230_4,v23) js230) fun k230 =>
 (O.boolO v14).bind fun b15=>cond b15 (
 (O.nilCheck E0).bind fun v16 =>
 (O.fieldAddr 93 v16 0).bind fun v17 =>
 (O.load s 91 v17).bind fun v18 =>
 (O.indexAddr 91 v18 x.2).bind fun v19 =>
 (O.load s 171 v19).bind fun v20 =>
 (O.buildSlice false s 91 1 [(0,v20)]).bind fun p21 =>
 (O.append false p21.2 91 91 x.1 p21.1).bind fun p22 =>
 k230 p22.1 p22.2) (
 k230 x.1 s)) (
 kx 0 (x.1,x.2) s)
theorem f53_l0_b (x:Value×Value) (s:St H) (nx:List Value→St H→RsT H) (K:Ex→List Value→St H→RsT H) :
 exec prog false C n 53 none (cdp Try.f53 [1,0,1,0,0]) (f53_l0_m E0 A0 F0 x) s (kIter (scratch (cdp Try.f53 [1,0,1,0,0])) nx K)=f53_l0 (dOps (H:=H) prog) C n E0 A0 (fun x s=>nx (f53_l0_m E0 A0 F0 x) s) (fun i x s=>K (.exit i) (f53_l0_m E0 A0 F0 x) s) (fun x s=>K .ret (f53_l0_m E0 A0 F0 x) s) x s:=by kernel_rfl
theorem f53_l0_e (m:Nat) (x:Value×Value) (s:St H) (K:Ex→List Value→St H→RsT H) :
 iter (fun t s k=>exec prog false C n 53 none (cdp Try.f53 [1,0,1,0,0]) t s k) (scratch (cdp Try.f53 [1,0,1,0,0])) m (f53_l0_m E0 A0 F0 x) s K=iterS (f53_l0 (dOps (H:=H) prog) C n E0 A0) (fun i x s=>K (.exit i) (f53_l0_m E0 A0 F0 x) s) (fun x s=>K .ret (f53_l0_m E0 A0 F0 x) s) m x s :=
   iter_eq (f53_l0_m E0 A0 F0) (f53_l0 (dOps (H:=H) prog) C n E0 A0) (fun x s nx K=>f53_l0_b C n E0 A0 F0 x s nx K) K m x s
noncomputable def f53 (O:Ops H) (C:OracleJ H) (n:Nat) (a0 a1:Value) (s:St H):RsT H :=
 (O.buildSlice false s 91 0 []).bind fun p1 =>
 iterS (f53_l0 O C n a0 a1 )
 (fun F1 x25 s26=>(bif Nat.beq F1 0 then
 (O.nilCheck a0).bind fun v29 =>
 (O.fieldAddr 93 v29 0).bind fun v30 =>
 (O.store s26 91 v30 x25.1).bind fun s31 =>
 some [(.tuple #[],s31)] else none))
 (fun x27 s28=>some [(.tuple #[],s28)]) n (p1.1,(Value.int IntKind.i64 0)) p1.2
theorem f53_l0_k (i:Nat) (x:Value×Value) (s:St H):(kBlock 0 (kSeq prog false C n 53 none (cdp Try.f53 [1,1]) (kFun prog Try.f53))) (.exit i) (f53_l0_m E0 A0 F0 x) s =
 (bif Nat.beq i 0 then
 ((dA H).nilCheck E0).bind fun v36 =>
 ((dA H).fieldAddr 93 v36 0).bind fun v37 =>
 ((dA H).store s 91 v37 x.1).bind fun s38 =>
 some [(.tuple #[],s38)] else none):=by kernel_rfl
theorem f53_r (C:OracleJ H) (n:Nat) (a0 a1:Value) (s:St H):bodyD prog false C n 53 Try.f53 [a0,a1] s=f53 (dOps (H:=H) prog) C n a0 a1 s:=by
  have h1:bodyD prog false C n 53 Try.f53 [a0,a1] s =
 ((dA H).buildSlice false s 91 0 []).bind fun p32 =>
 iter (fun t s k=>exec prog false C n 53 none (cdp Try.f53 [1,0,1,0,0]) t s k) (scratch (cdp Try.f53 [1,0,1,0,0])) n (f53_l0_m a0 a1 p32.1 (p32.1,(Value.int IntKind.i64 0))) p32.2 (kBlock 0 (kSeq prog false C n 53 none (cdp Try.f53 [1,1]) (kFun prog Try.f53))):=by kernel_rfl
  rw [h1]
  simp only [f53_l0_e,f53_l0_k]
  show _=f53 (dOps (H:=H) prog) C n a0 a1 s
  kernel_rfl
def f54_l0_m (E0 G0 F0 S0 T0 N0 J0 Q0 M0 R0 P0:Value) (x:Value×Value):List Value:=[E0,undefV,(Go.Value.pointer none),G0,x.1,x.2,F0,S0,T0,N0,J0,Q0,M0,R0,P0,dc,dc,dc,dc,dc,dc,dc,dc,dc,dc,dc,dc,undefV]
noncomputable def f54_l0 (O:Ops H) (C:OracleJ H) (n:Nat) (G0 P0:Value) (nx:(Value×Value)→St H→RsT H) (kx:Nat→(Value×Value)→St H→RsT H) (kr:(Value×Value)→St H→RsT H) (x:Value×Value) (s:St H):RsT H :=
 (O.nexts s P0).bind fun L13=>manyK L13 fun v14 s15 =>
 (O.extract v14 0).bind fun v16 =>
 (O.boolO v16).bind fun b17=>cond b17 (
 (O.entry s15 P0).bind fun v18 =>
 (O.extract v18 0).bind fun v19 =>
 (O.extract v18 1).bind fun v20 =>
 (O.nilCheck G0).bind fun v21 =>
 (O.fieldAddr 158 v21 0).bind fun v22 =>
 (O.load s15 156 v22).bind fun v23 =>
 (oneO C (.fn 108) [v20] s15).bind fun p24 =>
 (O.mapUpdate p24.2 156 v23 v19 p24.1).bind fun s25 =>
 bif (eqO H (O.load s15 156 v22) v23&&(eqO H (O.load p24.2 156 v22) v23&&(true)))&&(true) then
 nx (v19,v20) s25
 else none) (
 kx 0 (x.1,x.2) s15)
theorem f54_l0_b (x:Value×Value) (s:St H) (nx:List Value→St H→RsT H) (K:Ex→List Value→St H→RsT H) :
 exec prog false C n 54 none (cdp Try.f54 [1,1,1,0,1,0,0]) (f54_l0_m E0 G0 F0 S0 T0 N0 J0 Q0 M0 R0 P0 x) s (kIter (scratch (cdp Try.f54 [1,1,1,0,1,0,0])) nx K)=f54_l0 (dOps (H:=H) prog) C n G0 P0 (fun x s=>nx (f54_l0_m E0 G0 F0 S0 T0 N0 J0 Q0 M0 R0 P0 x) s) (fun i x s=>K (.exit i) (f54_l0_m E0 G0 F0 S0 T0 N0 J0 Q0 M0 R0 P0 x) s) (fun x s=>K .ret (f54_l0_m E0 G0 F0 S0 T0 N0 J0 Q0 M0 R0 P0 x) s) x s:=by kernel_rfl
theorem f54_l0_e (m:Nat) (x:Value×Value) (s:St H) (K:Ex→List Value→St H→RsT H) :
 iter (fun t s k=>exec prog false C n 54 none (cdp Try.f54 [1,1,1,0,1,0,0]) t s k) (scratch (cdp Try.f54 [1,1,1,0,1,0,0])) m (f54_l0_m E0 G0 F0 S0 T0 N0 J0 Q0 M0 R0 P0 x) s K=iterS (f54_l0 (dOps (H:=H) prog) C n G0 P0) (fun i x s=>K (.exit i) (f54_l0_m E0 G0 F0 S0 T0 N0 J0 Q0 M0 R0 P0 x) s) (fun x s=>K .ret (f54_l0_m E0 G0 F0 S0 T0 N0 J0 Q0 M0 R0 P0 x) s) m x s :=
   iter_eq (f54_l0_m E0 G0 F0 S0 T0 N0 J0 Q0 M0 R0 P0) (f54_l0 (dOps (H:=H) prog) C n G0 P0) (fun x s nx K=>f54_l0_b C n E0 G0 F0 S0 T0 N0 J0 Q0 M0 R0 P0 x s nx K) K m x s
noncomputable def f54 (O:Ops H) (C:OracleJ H) (n:Nat) (a0:Value) (s:St H):RsT H :=
 (C (.fn 101) [a0] s).bind fun L1=>manyK L1 fun v2 s3 =>
 (O.uop .not v2).bind fun v4 =>
 (O.boolO v4).bind fun b5=>cond b5 (
 some [((Go.Value.pointer none),s3)]) (
 (C (.fn 46) [] s3).bind fun L6=>manyK L6 fun v7 s8 =>
 (O.nilCheck a0).bind fun v9 =>
 (O.fieldAddr 158 v9 0).bind fun v10 =>
 (O.load s8 156 v10).bind fun v11 =>
 (O.range s8 156 v11).bind fun p12 =>
 iterS (f54_l0 O C n v7 p12.1 )
 (fun D1 x27 s28=>(bif Nat.beq D1 0 then
 some [(v7,s28)] else none))
 (fun x29 s30=>some [((Go.Value.pointer none),s30)]) n (undefV,undefV) p12.2)
theorem f54_l0_k (i:Nat) (x:Value×Value) (s:St H):(kBlock 0 (kSeq prog false C n 54 none (cdp Try.f54 [1,1,1,1]) (kFun prog Try.f54))) (.exit i) (f54_l0_m E0 G0 F0 S0 T0 N0 J0 Q0 M0 R0 P0 x) s =
 (bif Nat.beq i 0 then
 some [(G0,s)] else none):=by kernel_rfl
theorem f54_r (C:OracleJ H) (n:Nat) (a0:Value) (s:St H):bodyD prog false C n 54 Try.f54 [a0] s=f54 (dOps (H:=H) prog) C n a0 s:=by
  have h1:bodyD prog false C n 54 Try.f54 [a0] s =
 (C (.fn 101) [a0] s).bind fun L31=>manyK L31 fun v32 s33 =>
 ((dA H).uop .not v32).bind fun v34 =>
 ((dA H).boolO v34).bind fun b35=>cond b35 (
 some [((Go.Value.pointer none),s33)]) (
 (C (.fn 46) [] s33).bind fun L36=>manyK L36 fun v37 s38 =>
 ((dA H).nilCheck a0).bind fun v39 =>
 ((dA H).fieldAddr 158 v39 0).bind fun v40 =>
 ((dA H).load s38 156 v40).bind fun v41 =>
 ((dA H).range s38 156 v41).bind fun p42 =>
 iter (fun t s k=>exec prog false C n 54 none (cdp Try.f54 [1,1,1,0,1,0,0]) t s k) (scratch (cdp Try.f54 [1,1,1,0,1,0,0])) n (f54_l0_m a0 v37 a0 v32 v34 v37 a0 v39 v40 v41 p42.1 (undefV,undefV)) p42.2 (kBlock 0 (kSeq prog false C n 54 none (cdp Try.f54 [1,1,1,1]) (kFun prog Try.f54)))):=by kernel_rfl
  rw [h1]
  simp only [f54_l0_e,f54_l0_k]
  show _=f54 (dOps (H:=H) prog) C n a0 s
  kernel_rfl
def f55_l0_m (E0 A0 I0 S0 T0 N0 J0 Q0 M0 R0 P0 X0 U0 V0 W0:Value) (x:Value×Value):List Value:=[E0,A0,undefV,undefV,x.1,I0,x.2,S0,T0,N0,J0,Q0,M0,R0,P0,X0,U0,V0,W0,dc,dc,dc,dc,dc,dc,dc,dc,dc,dc,dc,dc,dc,dc,dc,dc,dc,dc,dc,dc,dc,dc,dc,dc,dc,dc,dc,dc,dc,dc,dc,dc,dc,dc,dc,dc,dc,undefV,undefV,undefV,undefV,undefV]
noncomputable def f55_l0 (O:Ops H) (C:OracleJ H) (n:Nat) (E0 A0 I0:Value) (nx:(Value×Value)→St H→RsT H) (kx:Nat→(Value×Value)→St H→RsT H) (kr:(Value×Value)→St H→RsT H) (x:Value×Value) (s:St H):RsT H :=
 (O.len s 67 I0).bind fun v13 =>
 (O.bop .lss 3 x.2 v13).bind fun v14 =>
 (O.boolO v14).bind fun b15=>cond b15 (
 (O.indexAddr 67 I0 x.2).bind fun v16 =>
 (O.load s 70 v16).bind fun v17 =>
 (O.nilCheck A0).bind fun v18 =>
 (O.fieldAddr 93 v18 0).bind fun v19 =>
 (O.load s 91 v19).bind fun v20 =>
 (O.indexAddr 91 v20 x.2).bind fun v21 =>
 (O.fieldAddr 171 v21 0).bind fun v22 =>
 (O.load s 70 v22).bind fun v23 =>
 (O.bop .neq 70 v17 v23).bind fun v24 =>
 gd v24 (
 kr ((.bool false),x.2) s) (
 (O.indexAddr 67 I0 x.2).bind fun v25 =>
 (O.load s 70 v25).bind fun v26 =>
 (oneO C (.fn 50) [E0,v26] s).bind fun p27 =>
 (O.nilCheck A0).bind fun v28 =>
 (O.fieldAddr 93 v28 0).bind fun v29 =>
 (O.load p27.2 91 v29).bind fun v30 =>
 (O.indexAddr 91 v30 x.2).bind fun v31 =>
 (O.fieldAddr 171 v31 1).bind fun v32 =>
 (O.load p27.2 80 v32).bind fun v33 =>
 (oneO C (.fn 49) [p27.1,v33] p27.2).bind fun p34 =>
 (O.uop .not p34.1).bind fun v35 =>
 bif (eqO H (O.load s 80 v32) v33&&(eqO H (O.load p27.2 80 v32) v33&&(true)))&&((eqO H (O.load s 91 v29) v30&&(eqO H (O.load p27.2 91 v29) v30&&(true)))&&(true)) then
 (O.boolO v35).bind fun b38=>cond b38 (
 kr ((.bool false),x.2) p34.2) (
 (O.bop .add 3 x.2 (.int .i64 1)).bind fun v39 =>
 nx (x.1,v39) p34.2)
 else none) (
 none)) (
 kx 0 (x.1,x.2) s)
theorem f55_l0_b (x:Value×Value) (s:St H) (nx:List Value→St H→RsT H) (K:Ex→List Value→St H→RsT H) :
 exec prog false C n 55 none (cdp Try.f55 [1,1,1,1,0,1,0,0]) (f55_l0_m E0 A0 I0 S0 T0 N0 J0 Q0 M0 R0 P0 X0 U0 V0 W0 x) s (kIter (scratch (cdp Try.f55 [1,1,1,1,0,1,0,0])) nx K)=f55_l0 (dOps (H:=H) prog) C n E0 A0 I0 (fun x s=>nx (f55_l0_m E0 A0 I0 S0 T0 N0 J0 Q0 M0 R0 P0 X0 U0 V0 W0 x) s) (fun i x s=>K (.exit i) (f55_l0_m E0 A0 I0 S0 T0 N0 J0 Q0 M0 R0 P0 X0 U0 V0 W0 x) s) (fun x s=>K .ret (f55_l0_m E0 A0 I0 S0 T0 N0 J0 Q0 M0 R0 P0 X0 U0 V0 W0 x) s) x s:=by kernel_rfl
theorem f55_l0_e (m:Nat) (x:Value×Value) (s:St H) (K:Ex→List Value→St H→RsT H) :
 iter (fun t s k=>exec prog false C n 55 none (cdp Try.f55 [1,1,1,1,0,1,0,0]) t s k) (scratch (cdp Try.f55 [1,1,1,1,0,1,0,0])) m (f55_l0_m E0 A0 I0 S0 T0 N0 J0 Q0 M0 R0 P0 X0 U0 V0 W0 x) s K=iterS (f55_l0 (dOps (H:=H) prog) C n E0 A0 I0) (fun i x s=>K (.exit i) (f55_l0_m E0 A0 I0 S0 T0 N0 J0 Q0 M0 R0 P0 X0 U0 V0 W0 x) s) (fun x s=>K .ret (f55_l0_m E0 A0 I0 S0 T0 N0 J0 Q0 M0 R0 P0 X0 U0 V0 W0 x) s) m x s :=
   iter_eq (f55_l0_m E0 A0 I0 S0 T0 N0 J0 Q0 M0 R0 P0 X0 U0 V0 W0) (f55_l0 (dOps (H:=H) prog) C n E0 A0 I0) (fun x s nx K=>f55_l0_b C n E0 A0 I0 S0 T0 N0 J0 Q0 M0 R0 P0 X0 U0 V0 W0 x s nx K) K m x s
noncomputable def f55 (O:Ops H) (C:OracleJ H) (n:Nat) (a0 a1:Value) (s:St H):RsT H :=
 (O.bop .eql 81 a0 (Go.Value.pointer none)).bind fun v1 =>
 (O.boolO v1).bind fun b2=>cond b2 (
 some [((.bool false),s)]) (
 (C (.fn 109) [a0] s).bind fun L3=>manyK L3 fun v4 s5 =>
 (O.len s5 67 v4).bind fun v6 =>
 (O.nilCheck a1).bind fun v7 =>
 (O.fieldAddr 93 v7 0).bind fun v8 =>
 (O.load s5 91 v8).bind fun v9 =>
 (O.len s5 91 v9).bind fun v10 =>
 (O.bop .neq 3 v6 v10).bind fun v11 =>
 (O.boolO v11).bind fun b12=>cond b12 (
 some [((.bool false),s5)]) (
 iterS (f55_l0 O C n a0 a1 v4 )
 (fun V1 x41 s42=>(bif Nat.beq V1 0 then
 (C (.fn 61) [a0] s42).bind fun L45=>manyK L45 fun v46 s47 =>
 (C (.fn 110) [a1] s47).bind fun L48=>manyK L48 fun v49 s50 =>
 (C (.fn 26) [v46,v49] s50).bind fun L51=>manyK L51 fun v52 s53 =>
 some [(v52,s53)] else none))
 (fun x43 s44=>some [(x43.1,s44)]) n ((.bool false),(Value.int IntKind.i64 0)) s5))
theorem f55_l0_k (i:Nat) (x:Value×Value) (s:St H):(kBlock 0 (kSeq prog false C n 55 none (cdp Try.f55 [1,1,1,1,1]) (kFun prog Try.f55))) (.exit i) (f55_l0_m E0 A0 I0 S0 T0 N0 J0 Q0 M0 R0 P0 X0 U0 V0 W0 x) s =
 (bif Nat.beq i 0 then
 (C (.fn 61) [E0] s).bind fun L75=>manyK L75 fun v76 s77 =>
 (C (.fn 110) [A0] s77).bind fun L78=>manyK L78 fun v79 s80 =>
 (C (.fn 26) [v76,v79] s80).bind fun L81=>manyK L81 fun v82 s83 =>
 some [(v82,s83)] else none):=by kernel_rfl
theorem f55_r (C:OracleJ H) (n:Nat) (a0 a1:Value) (s:St H):bodyD prog false C n 55 Try.f55 [a0,a1] s=f55 (dOps (H:=H) prog) C n a0 a1 s:=by
  have h1:bodyD prog false C n 55 Try.f55 [a0,a1] s =
 ((dA H).bop .eql 81 a0 (Go.Value.pointer none)).bind fun v54 =>
 ((dA H).boolO v54).bind fun b55=>cond b55 (
 some [((.bool false),s)]) (
 (C (.fn 109) [a0] s).bind fun L56=>manyK L56 fun v57 s58 =>
 ((dA H).len s58 67 v57).bind fun v59 =>
 ((dA H).nilCheck a1).bind fun v60 =>
 ((dA H).fieldAddr 93 v60 0).bind fun v61 =>
 ((dA H).load s58 91 v61).bind fun v62 =>
 ((dA H).len s58 91 v62).bind fun v63 =>
 ((dA H).bop .neq 3 v59 v63).bind fun v64 =>
 ((dA H).boolO v64).bind fun b65=>cond b65 (
 some [((.bool false),s58)]) (
 iter (fun t s k=>exec prog false C n 55 none (cdp Try.f55 [1,1,1,1,0,1,0,0]) t s k) (scratch (cdp Try.f55 [1,1,1,1,0,1,0,0])) n (f55_l0_m a0 a1 v57 a0 v54 a0 v57 v57 v59 a1 v60 v61 v62 v63 v64 ((.bool false),(Value.int IntKind.i64 0))) s58 (kBlock 0 (kSeq prog false C n 55 none (cdp Try.f55 [1,1,1,1,1]) (kFun prog Try.f55))))):=by kernel_rfl
  rw [h1]
  simp only [f55_l0_e,f55_l0_k]
  show _=f55 (dOps (H:=H) prog) C n a0 a1 s
  kernel_rfl
def f56_l0_m (E0 A0 B0 S0 N0 J0 Q0:Value) (x:Value×Value):List Value:=[E0,A0,B0,undefV,undefV,undefV,x.1,S0,x.2,N0,J0,Q0,dc,dc,dc,dc,dc,dc,dc,dc,dc,dc,dc,dc,dc,dc,dc,dc,dc,dc,dc,dc,dc,dc]
noncomputable def f56_l0 (O:Ops H) (C:OracleJ H) (n:Nat) (B0 S0:Value) (nx:(Value×Value)→St H→RsT H) (kx:Nat→(Value×Value)→St H→RsT H) (kr:(Value×Value)→St H→RsT H) (x:Value×Value) (s:St H):RsT H :=
 (O.len s 80 S0).bind fun v4 =>
 (O.bop .lss 3 x.2 v4).bind fun v5 =>
 (O.boolO v5).bind fun b6=>cond b6 (
 jn (fun (j300_33:Value) =>
 (O.boolO j300_33).bind fun b16=>cond b16 (
 kr ((.bool true),x.2) s) (
 (O.bop .add 3 x.2 (.int .i64 1)).bind fun v17 =>
 nx (x.1,v17) s)) fun k300 =>
 (O.indexAddr 80 S0 x.2).bind fun v7 =>
 (O.fieldAddr 69 v7 0).bind fun v8 =>
 (O.load s 3 v8).bind fun v9 =>
 (O.bop .geq 3 B0 v9).bind fun v10 =>
 gd v10 (
 (O.indexAddr 80 S0 x.2).bind fun v11 =>
 (O.fieldAddr 69 v11 1).bind fun v12 =>
 (O.load s 3 v12).bind fun v13 =>
 (O.bop .leq 3 B0 v13).bind fun v14 =>
 k300 v14) (
 k300 (.bool false)) (
 none)) (
 kx 0 (x.1,x.2) s)
theorem f56_l0_b (x:Value×Value) (s:St H) (nx:List Value→St H→RsT H) (K:Ex→List Value→St H→RsT H) :
 exec prog false C n 56 none (cdp Try.f56 [1,1,0,1,0,0]) (f56_l0_m E0 A0 B0 S0 N0 J0 Q0 x) s (kIter (scratch (cdp Try.f56 [1,1,0,1,0,0])) nx K)=f56_l0 (dOps (H:=H) prog) C n B0 S0 (fun x s=>nx (f56_l0_m E0 A0 B0 S0 N0 J0 Q0 x) s) (fun i x s=>K (.exit i) (f56_l0_m E0 A0 B0 S0 N0 J0 Q0 x) s) (fun x s=>K .ret (f56_l0_m E0 A0 B0 S0 N0 J0 Q0 x) s) x s:=by kernel_rfl
theorem f56_l0_e (m:Nat) (x:Value×Value) (s:St H) (K:Ex→List Value→St H→RsT H) :
 iter (fun t s k=>exec prog false C n 56 none (cdp Try.f56 [1,1,0,1,0,0]) t s k) (scratch (cdp Try.f56 [1,1,0,1,0,0])) m (f56_l0_m E0 A0 B0 S0 N0 J0 Q0 x) s K=iterS (f56_l0 (dOps (H:=H) prog) C n B0 S0) (fun i x s=>K (.exit i) (f56_l0_m E0 A0 B0 S0 N0 J0 Q0 x) s) (fun x s=>K .ret (f56_l0_m E0 A0 B0 S0 N0 J0 Q0 x) s) m x s :=
   iter_eq (f56_l0_m E0 A0 B0 S0 N0 J0 Q0) (f56_l0 (dOps (H:=H) prog) C n B0 S0) (fun x s nx K=>f56_l0_b C n E0 A0 B0 S0 N0 J0 Q0 x s nx K) K m x s
noncomputable def f56 (O:Ops H) (C:OracleJ H) (n:Nat) (a0 a1 a2:Value) (s:St H):RsT H :=
 (C (.fn 57) [a0,a1] s).bind fun L1=>manyK L1 fun v2 s3 =>
 iterS (f56_l0 O C n a2 v2 )
 (fun W0 x19 s20=>(bif Nat.beq W0 0 then
 some [((.bool false),s20)] else none))
 (fun x21 s22=>some [(x21.1,s22)]) n ((.bool false),(Value.int IntKind.i64 0)) s3
theorem f56_l0_k (i:Nat) (x:Value×Value) (s:St H):(kBlock 0 (kSeq prog false C n 56 none (cdp Try.f56 [1,1,1]) (kFun prog Try.f56))) (.exit i) (f56_l0_m E0 A0 B0 S0 N0 J0 Q0 x) s =
 (bif Nat.beq i 0 then
 some [((.bool false),s)] else none):=by kernel_rfl
theorem f56_r (C:OracleJ H) (n:Nat) (a0 a1 a2:Value) (s:St H):bodyD prog false C n 56 Try.f56 [a0,a1,a2] s=f56 (dOps (H:=H) prog) C n a0 a1 a2 s:=by
  have h1:bodyD prog false C n 56 Try.f56 [a0,a1,a2] s =
 (C (.fn 57) [a0,a1] s).bind fun L23=>manyK L23 fun v24 s25 =>
 iter (fun t s k=>exec prog false C n 56 none (cdp Try.f56 [1,1,0,1,0,0]) t s k) (scratch (cdp Try.f56 [1,1,0,1,0,0])) n (f56_l0_m a0 a1 a2 v24 a0 a1 v24 ((.bool false),(Value.int IntKind.i64 0))) s25 (kBlock 0 (kSeq prog false C n 56 none (cdp Try.f56 [1,1,1]) (kFun prog Try.f56))):=by kernel_rfl
  rw [h1]
  simp only [f56_l0_e,f56_l0_k]
  show _=f56 (dOps (H:=H) prog) C n a0 a1 a2 s
  kernel_rfl
def f57_l0_m (E0 A0:Value) (x:Value×Value):List Value:=[E0,A0,undefV,undefV,x.1,x.2,dc,dc,dc,dc,dc,dc,dc,dc,dc,dc,dc,dc,dc,dc,dc,dc,dc,dc,dc,dc,dc,dc,dc,dc,dc,dc,dc,dc,dc]
noncomputable def f57_l0 (O:Ops H) (C:OracleJ H) (n:Nat) (E0 A0:Value) (nx:(Value×Value)→St H→RsT H) (kx:Nat→(Value×Value)→St H→RsT H) (kr:(Value×Value)→St H→RsT H) (x:Value×Value) (s:St H):RsT H :=
 (O.nilCheck E0).bind fun v1 =>
 (O.fieldAddr 93 v1 0).bind fun v2 =>
 (O.load s 91 v2).bind fun v3 =>
 (O.len s 91 v3).bind fun v4 =>
 (O.bop .lss 3 x.2 v4).bind fun v5 =>
 (O.boolO v5).bind fun b6=>cond b6 (
 (O.nilCheck E0).bind fun v7 =>
 (O.fieldAddr 93 v7 0).bind fun v8 =>
 (O.load s 91 v8).bind fun v9 =>
 (O.indexAddr 91 v9 x.2).bind fun v10 =>
 (O.fieldAddr 171 v10 0).bind fun v11 =>
 (O.load s 70 v11).bind fun v12 =>
 (O.bop .eql 70 v12 A0).bind fun v13 =>
 (O.boolO v13).bind fun b14=>cond b14 (
 (O.buildSlice false s 80 0 []).bind fun p15 =>
 (O.nilCheck E0).bind fun v16 =>
 (O.fieldAddr 93 v16 0).bind fun v17 =>
 (O.load p15.2 91 v17).bind fun v18 =>
 (O.indexAddr 91 v18 x.2).bind fun v19 =>
 (O.fieldAddr 171 v19 1).bind fun v20 =>
 (O.load p15.2 80 v20).bind fun v21 =>
 (O.append false p15.2 80 80 p15.1 v21).bind fun p22 =>
 kr (p22.1,x.2) p22.2) (
 (O.bop .add 3 x.2 (.int .i64 1)).bind fun v23 =>
 nx (x.1,v23) s)) (
 kx 0 (x.1,x.2) s)
theorem f57_l0_b (x:Value×Value) (s:St H) (nx:List Value→St H→RsT H) (K:Ex→List Value→St H→RsT H) :
 exec prog false C n 57 none (cdp Try.f57 [1,0,1,0,0]) (f57_l0_m E0 A0 x) s (kIter (scratch (cdp Try.f57 [1,0,1,0,0])) nx K)=f57_l0 (dOps (H:=H) prog) C n E0 A0 (fun x s=>nx (f57_l0_m E0 A0 x) s) (fun i x s=>K (.exit i) (f57_l0_m E0 A0 x) s) (fun x s=>K .ret (f57_l0_m E0 A0 x) s) x s:=by kernel_rfl
theorem f57_l0_e (m:Nat) (x:Value×Value) (s:St H) (K:Ex→List Value→St H→RsT H) :
 iter (fun t s k=>exec prog false C n 57 none (cdp Try.f57 [1,0,1,0,0]) t s k) (scratch (cdp Try.f57 [1,0,1,0,0])) m (f57_l0_m E0 A0 x) s K=iterS (f57_l0 (dOps (H:=H) prog) C n E0 A0) (fun i x s=>K (.exit i) (f57_l0_m E0 A0 x) s) (fun x s=>K .ret (f57_l0_m E0 A0 x) s) m x s :=
   iter_eq (f57_l0_m E0 A0) (f57_l0 (dOps (H:=H) prog) C n E0 A0) (fun x s nx K=>f57_l0_b C n E0 A0 x s nx K) K m x s
noncomputable def f57 (O:Ops H) (C:OracleJ H) (n:Nat) (a0 a1:Value) (s:St H):RsT H :=
 iterS (f57_l0 O C n a0 a1 )
 (fun F1 x25 s26=>(bif Nat.beq F1 0 then
 some [((fzV 2 #[]),s26)] else none))
 (fun x27 s28=>some [(x27.1,s28)]) n ((fzV 2 #[]),(Value.int IntKind.i64 0)) s
theorem f57_l0_k (i:Nat) (x:Value×Value) (s:St H):(kBlock 0 (kSeq prog false C n 57 none (cdp Try.f57 [1,1]) (kFun prog Try.f57))) (.exit i) (f57_l0_m E0 A0 x) s =
 (bif Nat.beq i 0 then
 some [((fzV 2 #[]),s)] else none):=by kernel_rfl
theorem f57_r (C:OracleJ H) (n:Nat) (a0 a1:Value) (s:St H):bodyD prog false C n 57 Try.f57 [a0,a1] s=f57 (dOps (H:=H) prog) C n a0 a1 s:=by
  have h1:bodyD prog false C n 57 Try.f57 [a0,a1] s =
 iter (fun t s k=>exec prog false C n 57 none (cdp Try.f57 [1,0,1,0,0]) t s k) (scratch (cdp Try.f57 [1,0,1,0,0])) n (f57_l0_m a0 a1 ((fzV 2 #[]),(Value.int IntKind.i64 0))) s (kBlock 0 (kSeq prog false C n 57 none (cdp Try.f57 [1,1]) (kFun prog Try.f57))):=by kernel_rfl
  rw [h1]
  simp only [f57_l0_e,f57_l0_k]
  show _=f57 (dOps (H:=H) prog) C n a0 a1 s
  kernel_rfl
def f58_l0_m (E0 A0 F0 S0 T0 N0 J0:Value) (x:Value×Value):List Value:=[E0,A0,undefV,undefV,x.1,x.2,F0,S0,T0,N0,J0,dc,dc,dc,dc,dc,dc,dc,dc,dc,dc,dc,dc,dc,dc,dc]
noncomputable def f58_l0 (O:Ops H) (C:OracleJ H) (n:Nat) (E0 A0:Value) (nx:(Value×Value)→St H→RsT H) (kx:Nat→(Value×Value)→St H→RsT H) (kr:(Value×Value)→St H→RsT H) (x:Value×Value) (s:St H):RsT H :=
 (O.len s 89 E0).bind fun v5 =>
 (O.bop .lss 3 x.2 v5).bind fun v6 =>
 (O.boolO v6).bind fun b7=>cond b7 (
 (O.indexAddr 89 E0 x.2).bind fun v8 =>
 (O.load s 140 v8).bind fun v9 =>
 (O.indexAddr 89 A0 x.2).bind fun v10 =>
 (O.load s 140 v10).bind fun v11 =>
 (O.bop .neq 140 v9 v11).bind fun v12 =>
 (O.boolO v12).bind fun b13=>cond b13 (
 kr ((.bool false),x.2) s) (
 (O.bop .add 3 x.2 (.int .i64 1)).bind fun v14 =>
 nx (x.1,v14) s)) (
 kx 0 (x.1,x.2) s)
theorem f58_l0_b (x:Value×Value) (s:St H) (nx:List Value→St H→RsT H) (K:Ex→List Value→St H→RsT H) :
 exec prog false C n 58 none (cdp Try.f58 [1,1,0,1,0,0]) (f58_l0_m E0 A0 F0 S0 T0 N0 J0 x) s (kIter (scratch (cdp Try.f58 [1,1,0,1,0,0])) nx K)=f58_l0 (dOps (H:=H) prog) C n E0 A0 (fun x s=>nx (f58_l0_m E0 A0 F0 S0 T0 N0 J0 x) s) (fun i x s=>K (.exit i) (f58_l0_m E0 A0 F0 S0 T0 N0 J0 x) s) (fun x s=>K .ret (f58_l0_m E0 A0 F0 S0 T0 N0 J0 x) s) x s:=by kernel_rfl
theorem f58_l0_e (m:Nat) (x:Value×Value) (s:St H) (K:Ex→List Value→St H→RsT H) :
 iter (fun t s k=>exec prog false C n 58 none (cdp Try.f58 [1,1,0,1,0,0]) t s k) (scratch (cdp Try.f58 [1,1,0,1,0,0])) m (f58_l0_m E0 A0 F0 S0 T0 N0 J0 x) s K=iterS (f58_l0 (dOps (H:=H) prog) C n E0 A0) (fun i x s=>K (.exit i) (f58_l0_m E0 A0 F0 S0 T0 N0 J0 x) s) (fun x s=>K .ret (f58_l0_m E0 A0 F0 S0 T0 N0 J0 x) s) m x s :=
   iter_eq (f58_l0_m E0 A0 F0 S0 T0 N0 J0) (f58_l0 (dOps (H:=H) prog) C n E0 A0) (fun x s nx K=>f58_l0_b C n E0 A0 F0 S0 T0 N0 J0 x s nx K) K m x s
noncomputable def f58 (O:Ops H) (C:OracleJ H) (n:Nat) (a0 a1:Value) (s:St H):RsT H :=
 (O.len s 89 a0).bind fun v1 =>
 (O.len s 89 a1).bind fun v2 =>
 (O.bop .neq 3 v1 v2).bind fun v3 =>
 (O.boolO v3).bind fun b4=>cond b4 (
 some [((.bool false),s)]) (
 iterS (f58_l0 O C n a0 a1 )
 (fun X0 x16 s17=>(bif Nat.beq X0 0 then
 some [((.bool true),s17)] else none))
 (fun x18 s19=>some [(x18.1,s19)]) n ((.bool false),(Value.int IntKind.i64 0)) s)
theorem f58_l0_k (i:Nat) (x:Value×Value) (s:St H):(kBlock 0 (kSeq prog false C n 58 none (cdp Try.f58 [1,1,1]) (kFun prog Try.f58))) (.exit i) (f58_l0_m E0 A0 F0 S0 T0 N0 J0 x) s =
 (bif Nat.beq i 0 then
 some [((.bool true),s)] else none):=by kernel_rfl
theorem f58_r (C:OracleJ H) (n:Nat) (a0 a1:Value) (s:St H):bodyD prog false C n 58 Try.f58 [a0,a1] s=f58 (dOps (H:=H) prog) C n a0 a1 s:=by
  have h1:bodyD prog false C n 58 Try.f58 [a0,a1] s =
 ((dA H).len s 89 a0).bind fun v20 =>
 ((dA H).len s 89 a1).bind fun v21 =>
 ((dA H).bop .neq 3 v20 v21).bind fun v22 =>
 ((dA H).boolO v22).bind fun b23=>cond b23 (
 some [((.bool false),s)]) (
 iter (fun t s k=>exec prog false C n 58 none (cdp Try.f58 [1,1,0,1,0,0]) t s k) (scratch (cdp Try.f58 [1,1,0,1,0,0])) n (f58_l0_m a0 a1 a0 v20 a1 v21 v22 ((.bool false),(Value.int IntKind.i64 0))) s (kBlock 0 (kSeq prog false C n 58 none (cdp Try.f58 [1,1,1]) (kFun prog Try.f58)))):=by kernel_rfl
  rw [h1]
  simp only [f58_l0_e,f58_l0_k]
  show _=f58 (dOps (H:=H) prog) C n a0 a1 s
  kernel_rfl
def f59_l0_m (E0 A0 B0 F0 J0 Q0:Value) (x:Value×Value):List Value:=[E0,A0,B0,undefV,undefV,undefV,F0,x.1,undefV,dc,J0,Q0,x.2,dc,dc,dc,dc,dc,dc,dc,dc,dc,dc,dc,dc,dc,dc,undefV]
noncomputable def f59_l0 (O:Ops H) (C:OracleJ H) (n:Nat) (E0 A0 J0 Q0:Value) (nx:(Value×Value)→St H→RsT H) (kx:Nat→(Value×Value)→St H→RsT H) (kr:(Value×Value)→St H→RsT H) (x:Value×Value) (s:St H):RsT H :=
 (O.bop .lss 3 x.2 Q0).bind fun v2 =>
 (O.boolO v2).bind fun b3=>cond b3 (
 (O.indexAddr 89 J0 x.2).bind fun v4 =>
 (O.load s 140 v4).bind fun v5 =>
 (O.alloc s 140).bind fun p6 =>
 (O.store p6.2 140 p6.1 v5).bind fun s7 =>
 (O.fieldAddr 140 p6.1 0).bind fun v8 =>
 (O.load s7 3 v8).bind fun v9 =>
 (C (.fn 48) [E0,A0,v9] s7).bind fun L10=>manyK L10 fun v11 s12 =>
 (O.uop .not v11).bind fun v13 =>
 jn (fun (j360_7:Value) (js360:St H) =>
 (O.bop .add 3 x.2 (.int .i64 1)).bind fun v18 =>
 nx (j360_7,v18) js360) fun k360 =>
 (O.boolO v13).bind fun b14=>cond b14 (
 (O.load s12 140 p6.1).bind fun v15 =>
 (O.buildSlice false s12 89 1 [(0,v15)]).bind fun p16 =>
 (O.append false p16.2 89 89 x.1 p16.1).bind fun p17 =>
 k360 p17.1 p17.2) (
 k360 x.1 s12)) (
 kx 0 (x.1,x.2) s)
theorem f59_l0_b (x:Value×Value) (s:St H) (nx:List Value→St H→RsT H) (K:Ex→List Value→St H→RsT H) :
 exec prog false C n 59 none (cdp Try.f59 [1,1,0,1,0,0]) (f59_l0_m E0 A0 B0 F0 J0 Q0 x) s (kIter (scratch (cdp Try.f59 [1,1,0,1,0,0])) nx K)=f59_l0 (dOps (H:=H) prog) C n E0 A0 J0 Q0 (fun x s=>nx (f59_l0_m E0 A0 B0 F0 J0 Q0 x) s) (fun i x s=>K (.exit i) (f59_l0_m E0 A0 B0 F0 J0 Q0 x) s) (fun x s=>K .ret (f59_l0_m E0 A0 B0 F0 J0 Q0 x) s) x s:=by kernel_rfl
theorem f59_l0_e (m:Nat) (x:Value×Value) (s:St H) (K:Ex→List Value→St H→RsT H) :
 iter (fun t s k=>exec prog false C n 59 none (cdp Try.f59 [1,1,0,1,0,0]) t s k) (scratch (cdp Try.f59 [1,1,0,1,0,0])) m (f59_l0_m E0 A0 B0 F0 J0 Q0 x) s K=iterS (f59_l0 (dOps (H:=H) prog) C n E0 A0 J0 Q0) (fun i x s=>K (.exit i) (f59_l0_m E0 A0 B0 F0 J0 Q0 x) s) (fun x s=>K .ret (f59_l0_m E0 A0 B0 F0 J0 Q0 x) s) m x s :=
   iter_eq (f59_l0_m E0 A0 B0 F0 J0 Q0) (f59_l0 (dOps (H:=H) prog) C n E0 A0 J0 Q0) (fun x s nx K=>f59_l0_b C n E0 A0 B0 F0 J0 Q0 x s nx K) K m x s
noncomputable def f59 (O:Ops H) (C:OracleJ H) (n:Nat) (a0 a1 a2:Value) (s:St H):RsT H :=
 (O.len s 89 a2).bind fun v1 =>
 iterS (f59_l0 O C n a0 a1 a2 v1 )
 (fun Z0 x20 s21=>(bif Nat.beq Z0 0 then
 some [(x20.1,s21)] else none))
 (fun x22 s23=>some [((fzV 2 #[]),s23)]) n ((fzV 2 #[]),(Value.int IntKind.i64 0)) s
theorem f59_l0_k (i:Nat) (x:Value×Value) (s:St H):(kBlock 0 (kSeq prog false C n 59 none (cdp Try.f59 [1,1,1]) (kFun prog Try.f59))) (.exit i) (f59_l0_m E0 A0 B0 F0 J0 Q0 x) s =
 (bif Nat.beq i 0 then
 some [(x.1,s)] else none):=by kernel_rfl
theorem f59_r (C:OracleJ H) (n:Nat) (a0 a1 a2:Value) (s:St H):bodyD prog false C n 59 Try.f59 [a0,a1,a2] s=f59 (dOps (H:=H) prog) C n a0 a1 a2 s:=by
  have h1:bodyD prog false C n 59 Try.f59 [a0,a1,a2] s =
 ((dA H).len s 89 a2).bind fun v24 =>
 iter (fun t s k=>exec prog false C n 59 none (cdp Try.f59 [1,1,0,1,0,0]) t s k) (scratch (cdp Try.f59 [1,1,0,1,0,0])) n (f59_l0_m a0 a1 a2 (fzV 2 #[]) a2 v24 ((fzV 2 #[]),(Value.int IntKind.i64 0))) s (kBlock 0 (kSeq prog false C n 59 none (cdp Try.f59 [1,1,1]) (kFun prog Try.f59))):=by kernel_rfl
  rw [h1]
  simp only [f59_l0_e,f59_l0_k]
  show _=f59 (dOps (H:=H) prog) C n a0 a1 a2 s
  kernel_rfl
def f60_l0_m (E0 A0 B0 F0 N0:Value) (x:Value×Value):List Value:=[E0,A0,B0,undefV,undefV,undefV,F0,x.1,x.2,N0,dc,dc,dc,dc,dc,dc,dc,dc,dc,dc,dc,dc,dc,dc,dc,dc,dc,dc,dc,dc,dc,dc,undefV]
noncomputable def f60_l0 (O:Ops H) (C:OracleJ H) (n:Nat) (E0 A0 B0:Value) (nx:(Value×Value)→St H→RsT H) (kx:Nat→(Value×Value)→St H→RsT H) (kr:(Value×Value)→St H→RsT H) (x:Value×Value) (s:St H):RsT H :=
 (O.len s 89 B0).bind fun v2 =>
 (O.bop .lss 3 x.2 v2).bind fun v3 =>
 (O.boolO v3).bind fun b4=>cond b4 (
 (O.indexAddr 89 B0 x.2).bind fun v5 =>
 (O.fieldAddr 140 v5 0).bind fun v6 =>
 (O.load s 3 v6).bind fun v7 =>
 (C (.fn 56) [E0,A0,v7] s).bind fun L8=>manyK L8 fun v9 s10 =>
 (O.uop .not v9).bind fun v11 =>
 jn (fun (j378_7:Value) (js378:St H) =>
 (O.bop .add 3 x.2 (.int .i64 1)).bind fun v17 =>
 nx (j378_7,v17) js378) fun k378 =>
 (O.boolO v11).bind fun b12=>cond b12 (
 (O.indexAddr 89 B0 x.2).bind fun v13 =>
 (O.load s10 140 v13).bind fun v14 =>
 (O.buildSlice false s10 89 1 [(0,v14)]).bind fun p15 =>
 (O.append false p15.2 89 89 x.1 p15.1).bind fun p16 =>
 k378 p16.1 p16.2) (
 k378 x.1 s10)) (
 kx 0 (x.1,x.2) s)
theorem f60_l0_b (x:Value×Value) (s:St H) (nx:List Value→St H→RsT H) (K:Ex→List Value→St H→RsT H) :
 exec prog false C n 60 none (cdp Try.f60 [1,1,0,1,0,0]) (f60_l0_m E0 A0 B0 F0 N0 x) s (kIter (scratch (cdp Try.f60 [1,1,0,1,0,0])) nx K)=f60_l0 (dOps (H:=H) prog) C n E0 A0 B0 (fun x s=>nx (f60_l0_m E0 A0 B0 F0 N0 x) s) (fun i x s=>K (.exit i) (f60_l0_m E0 A0 B0 F0 N0 x) s) (fun x s=>K .ret (f60_l0_m E0 A0 B0 F0 N0 x) s) x s:=by kernel_rfl
theorem f60_l0_e (m:Nat) (x:Value×Value) (s:St H) (K:Ex→List Value→St H→RsT H) :
 iter (fun t s k=>exec prog false C n 60 none (cdp Try.f60 [1,1,0,1,0,0]) t s k) (scratch (cdp Try.f60 [1,1,0,1,0,0])) m (f60_l0_m E0 A0 B0 F0 N0 x) s K=iterS (f60_l0 (dOps (H:=H) prog) C n E0 A0 B0) (fun i x s=>K (.exit i) (f60_l0_m E0 A0 B0 F0 N0 x) s) (fun x s=>K .ret (f60_l0_m E0 A0 B0 F0 N0 x) s) m x s :=
   iter_eq (f60_l0_m E0 A0 B0 F0 N0) (f60_l0 (dOps (H:=H) prog) C n E0 A0 B0) (fun x s nx K=>f60_l0_b C n E0 A0 B0 F0 N0 x s nx K) K m x s
noncomputable def f60 (O:Ops H) (C:OracleJ H) (n:Nat) (a0 a1 a2:Value) (s:St H):RsT H :=
 (O.buildSlice false s 89 0 []).bind fun p1 =>
 iterS (f60_l0 O C n a0 a1 a2 )
 (fun W0 x19 s20=>(bif Nat.beq W0 0 then
 some [(x19.1,s20)] else none))
 (fun x21 s22=>some [((fzV 2 #[]),s22)]) n (p1.1,(Value.int IntKind.i64 0)) p1.2
theorem f60_l0_k (i:Nat) (x:Value×Value) (s:St H):(kBlock 0 (kSeq prog false C n 60 none (cdp Try.f60 [1,1,1]) (kFun prog Try.f60))) (.exit i) (f60_l0_m E0 A0 B0 F0 N0 x) s =
 (bif Nat.beq i 0 then
 some [(x.1,s)] else none):=by kernel_rfl
theorem f60_r (C:OracleJ H) (n:Nat) (a0 a1 a2:Value) (s:St H):bodyD prog false C n 60 Try.f60 [a0,a1,a2] s=f60 (dOps (H:=H) prog) C n a0 a1 a2 s:=by
  have h1:bodyD prog false C n 60 Try.f60 [a0,a1,a2] s =
 ((dA H).buildSlice false s 89 0 []).bind fun p23 =>
 iter (fun t s k=>exec prog false C n 60 none (cdp Try.f60 [1,1,0,1,0,0]) t s k) (scratch (cdp Try.f60 [1,1,0,1,0,0])) n (f60_l0_m a0 a1 a2 (fzV 2 #[]) p23.1 (p23.1,(Value.int IntKind.i64 0))) p23.2 (kBlock 0 (kSeq prog false C n 60 none (cdp Try.f60 [1,1,1]) (kFun prog Try.f60))):=by kernel_rfl
  rw [h1]
  simp only [f60_l0_e,f60_l0_k]
  show _=f60 (dOps (H:=H) prog) C n a0 a1 a2 s
  kernel_rfl
def f61_l1_m (E0 B0 D0 F0 J0 Q0 M0 R0 P0 X0 U0 V0 W0 Z0 B1 A1 I1 G1 F1 E1 D1 S1 W1 X1 Y1 Z1 T1 U1 A2 B2 D2 E2 F2 G2 V1 I2 J2 J1 M1 N1 P1 Q1 R1:Value) (x:Value×Value×Value):List Value:=[E0,undefV,B0,x.1,D0,undefV,F0,x.2.1,undefV,dc,J0,Q0,M0,R0,P0,X0,U0,V0,W0,Z0,B1,A1,I1,G1,F1,E1,D1,S1,W1,X1,Y1,Z1,T1,U1,A2,B2,D2,E2,F2,G2,V1,I2,J2,J1,M1,N1,P1,Q1,R1,x.2.2,dc,dc,dc,dc,dc,dc,dc,dc,dc,dc,dc,dc,dc,dc,dc,dc,dc,dc,dc,dc,dc,undefV]
noncomputable def f61_l1 (O:Ops H) (C:OracleJ H) (n:Nat) (Q1 R1:Value) (nx:(Value×Value×Value)→St H→RsT H) (kx:Nat→(Value×Value×Value)→St H→RsT H) (kr:(Value×Value×Value)→St H→RsT H) (x:Value×Value×Value) (s:St H):RsT H :=
 (O.bop .lss 3 x.2.2 R1).bind fun v36 =>
 (O.boolO v36).bind fun b37=>cond b37 (
 (O.indexAddr 160 Q1 x.2.2).bind fun v38 =>
 (O.load s 163 v38).bind fun v39 =>
 (O.alloc s 163).bind fun p40 =>
 (O.store p40.2 163 p40.1 v39).bind fun s41 =>
 (O.fieldAddr 163 p40.1 0).bind fun v42 =>
 (O.load s41 3 v42).bind fun v43 =>
 (O.bop .sub 3 v43 x.2.1).bind fun v44 =>
 (O.conv false s41 3 70 v44).bind fun p45 =>
 (oneO C (.fn 72) [x.1,p45.1] p45.2).bind fun p46 =>
 (O.fieldAddr 163 p40.1 1).bind fun v47 =>
 (O.load p46.2 3 v47).bind fun v48 =>
 (O.fieldAddr 163 p40.1 0).bind fun v49 =>
 (O.load p46.2 3 v49).bind fun v50 =>
 (O.bop .sub 3 v48 v50).bind fun v51 =>
 (O.conv false p46.2 3 70 v51).bind fun p52 =>
 (oneO C (.fn 72) [p46.1,p52.1] p52.2).bind fun p53 =>
 bif (eqO H ((O.conv false s41 3 70 v51).map (·.1)) p52.1&&(eqO H ((O.conv false p46.2 3 70 v51).map (·.1)) p52.1&&(true)))&&((eqO H (O.load s41 3 v49) v50&&(eqO H (O.load p46.2 3 v49) v50&&(true)))&&((eqO H (O.load s41 3 v47) v48&&(eqO H (O.load p46.2 3 v47) v48&&(true)))&&(true))) then
 (O.fieldAddr 163 p40.1 1).bind fun v54 =>
 (O.load p53.2 3 v54).bind fun v55 =>
 (O.bop .add 3 x.2.2 (.int .i64 1)).bind fun v56 =>
 nx (p53.1,v55,v56) p53.2
 else none) (
 kx 2 (x.1,x.2.1,x.2.2) s)
theorem f61_l1_b (x:Value×Value×Value) (s:St H) (nx:List Value→St H→RsT H) (K:Ex→List Value→St H→RsT H) :
 exec prog false C n 61 none (cdp Try.f61 [1,1,1,1,0,1,0,0,1,1,0,0,1,1,1,1,1,0,0]) (f61_l1_m E0 B0 D0 F0 J0 Q0 M0 R0 P0 X0 U0 V0 W0 Z0 B1 A1 I1 G1 F1 E1 D1 S1 W1 X1 Y1 Z1 T1 U1 A2 B2 D2 E2 F2 G2 V1 I2 J2 J1 M1 N1 P1 Q1 R1 x) s (kIter (scratch (cdp Try.f61 [1,1,1,1,0,1,0,0,1,1,0,0,1,1,1,1,1,0,0])) nx K)=f61_l1 (dOps (H:=H) prog) C n Q1 R1 (fun x s=>nx (f61_l1_m E0 B0 D0 F0 J0 Q0 M0 R0 P0 X0 U0 V0 W0 Z0 B1 A1 I1 G1 F1 E1 D1 S1 W1 X1 Y1 Z1 T1 U1 A2 B2 D2 E2 F2 G2 V1 I2 J2 J1 M1 N1 P1 Q1 R1 x) s) (fun i x s=>K (.exit i) (f61_l1_m E0 B0 D0 F0 J0 Q0 M0 R0 P0 X0 U0 V0 W0 Z0 B1 A1 I1 G1 F1 E1 D1 S1 W1 X1 Y1 Z1 T1 U1 A2 B2 D2 E2 F2 G2 V1 I2 J2 J1 M1 N1 P1 Q1 R1 x) s) (fun x s=>K .ret (f61_l1_m E0 B0 D0 F0 J0 Q0 M0 R0 P0 X0 U0 V0 W0 Z0 B1 A1 I1 G1 F1 E1 D1 S1 W1 X1 Y1 Z1 T1 U1 A2 B2 D2 E2 F2 G2 V1 I2 J2 J1 M1 N1 P1 Q1 R1 x) s) x s:=by kernel_rfl
theorem f61_l1_e (m:Nat) (x:Value×Value×Value) (s:St H) (K:Ex→List Value→St H→RsT H) :
 iter (fun t s k=>exec prog false C n 61 none (cdp Try.f61 [1,1,1,1,0,1,0,0,1,1,0,0,1,1,1,1,1,0,0]) t s k) (scratch (cdp Try.f61 [1,1,1,1,0,1,0,0,1,1,0,0,1,1,1,1,1,0,0])) m (f61_l1_m E0 B0 D0 F0 J0 Q0 M0 R0 P0 X0 U0 V0 W0 Z0 B1 A1 I1 G1 F1 E1 D1 S1 W1 X1 Y1 Z1 T1 U1 A2 B2 D2 E2 F2 G2 V1 I2 J2 J1 M1 N1 P1 Q1 R1 x) s K=iterS (f61_l1 (dOps (H:=H) prog) C n Q1 R1) (fun i x s=>K (.exit i) (f61_l1_m E0 B0 D0 F0 J0 Q0 M0 R0 P0 X0 U0 V0 W0 Z0 B1 A1 I1 G1 F1 E1 D1 S1 W1 X1 Y1 Z1 T1 U1 A2 B2 D2 E2 F2 G2 V1 I2 J2 J1 M1 N1 P1 Q1 R1 x) s) (fun x s=>K .ret (f61_l1_m E0 B0 D0 F0 J0 Q0 M0 R0 P0 X0 U0 V0 W0 Z0 B1 A1 I1 G1 F1 E1 D1 S1 W1 X1 Y1 Z1 T1 U1 A2 B2 D2 E2 F2 G2 V1 I2 J2 J1 M1 N1 P1 Q1 R1 x) s) m x s :=
   iter_eq (f61_l1_m E0 B0 D0 F0 J0 Q0 M0 R0 P0 X0 U0 V0 W0 Z0 B1 A1 I1 G1 F1 E1 D1 S1 W1 X1 Y1 Z1 T1 U1 A2 B2 D2 E2 F2 G2 V1 I2 J2 J1 M1 N1 P1 Q1 R1) (f61_l1 (dOps (H:=H) prog) C n Q1 R1) (fun x s nx K=>f61_l1_b C n E0 B0 D0 F0 J0 Q0 M0 R0 P0 X0 U0 V0 W0 Z0 B1 A1 I1 G1 F1 E1 D1 S1 W1 X1 Y1 Z1 T1 U1 A2 B2 D2 E2 F2 G2 V1 I2 J2 J1 M1 N1 P1 Q1 R1 x s nx K) K m x s
def f61_l0_m (E0 B0 J0 Q0 M0 R0 P0 X0 U0 V0 W0 Z0 B1 A1 I1:Value) (x:Value×Value×Value×Value×Value):List Value:=[E0,undefV,B0,x.1,x.2.1,undefV,x.2.2.1,x.2.2.2.1,undefV,dc,J0,Q0,M0,R0,P0,X0,U0,V0,W0,Z0,B1,A1,I1,x.2.2.2.2,dc,dc,dc,dc,dc,dc,dc,dc,dc,dc,dc,dc,dc,dc,dc,dc,dc,dc,dc,dc,dc,dc,dc,dc,dc,dc,dc,dc,dc,dc,dc,dc,dc,dc,dc,dc,dc,dc,dc,dc,dc,dc,dc,dc,dc,dc,dc,undefV]
noncomputable def f61_l0 (O:Ops H) (C:OracleJ H) (n:Nat) (E0 A1 I1:Value) (nx:(Value×Value×Value×Value×Value)→St H→RsT H) (kx:Nat→(Value×Value×Value×Value×Value)→St H→RsT H) (kr:(Value×Value×Value×Value×Value)→St H→RsT H) (x:Value×Value×Value×Value×Value) (s:St H):RsT H :=
 (O.bop .lss 3 x.2.2.2.2 I1).bind fun v18 =>
 (O.boolO v18).bind fun b19=>cond b19 (
 (O.indexAddr 67 A1 x.2.2.2.2).bind fun v20 =>
 (O.load s 70 v20).bind fun v21 =>
 (O.bop .sub 70 v21 x.2.1).bind fun v22 =>
 (oneO C (.fn 72) [x.1,v22] s).bind fun p23 =>
 (O.nilCheck E0).bind fun v24 =>
 (O.fieldAddr 158 v24 0).bind fun v25 =>
 (O.load p23.2 156 v25).bind fun v26 =>
 (O.lookup p23.2 156 v26 v21 false).bind fun v27 =>
 (O.len p23.2 160 v27).bind fun v28 =>
 (O.conv false p23.2 3 70 v28).bind fun p29 =>
 (oneO C (.fn 72) [p23.1,p29.1] p29.2).bind fun p30 =>
 bif (eqO H ((O.conv false s 3 70 v28).map (·.1)) p29.1&&(eqO H ((O.conv false p23.2 3 70 v28).map (·.1)) p29.1&&(true)))&&((eqO H (O.len s 160 v27) v28&&(eqO H (O.len p23.2 160 v27) v28&&(true)))&&((eqO H (O.lookup s 156 v26 v21 false) v27&&(eqO H (O.lookup p23.2 156 v26 v21 false) v27&&(true)))&&((eqO H (O.load s 156 v25) v26&&(eqO H (O.load p23.2 156 v25) v26&&(true)))&&(true)))) then
 (O.nilCheck E0).bind fun v31 =>
 (O.fieldAddr 158 v31 0).bind fun v32 =>
 (O.load p30.2 156 v32).bind fun v33 =>
 (O.lookup p30.2 156 v33 v21 false).bind fun v34 =>
 (O.len p30.2 160 v34).bind fun v35 =>
 iterS (f61_l1 O C n v34 v35 )
 (fun U2 x58 s59=>(bif Nat.beq U2 2 then
 (O.bop .add 3 x.2.2.2.2 (.int .i64 1)).bind fun v64 =>
 nx (x58.1,v21,v21,x58.2.1,v64) s59 else (bif Nat.beq U2 1 then
 (O.bop .add 3 x.2.2.2.2 (.int .i64 1)).bind fun v63 =>
 nx (x58.1,v21,v21,x58.2.1,v63) s59 else kx U2 (x58.1,v21,v21,x58.2.1,x.2.2.2.2) s59)))
 (fun x60 s61=>kr (x60.1,v21,v21,x60.2.1,x.2.2.2.2) s61) n (p30.1,(Value.int IntKind.i64 0),(Value.int IntKind.i64 0)) p30.2
 else none) (
 kx 0 (x.1,x.2.1,x.2.2.1,x.2.2.2.1,x.2.2.2.2) s)
theorem f61_l1_k (nx:List Value→St H→RsT H) (K:Ex→List Value→St H→RsT H) (i:Nat) (x:Value×Value×Value) (s:St H):(kBlock 2 (kBlock 1 (kSeq prog false C n 61 none (cdp Try.f61 [1,1,1,1,0,1,0,0,1,1,1]) (kIter (scratch (cdp Try.f61 [1,1,1,1,0,1,0,0])) nx K)))) (.exit i) (f61_l1_m E0 B0 D0 F0 J0 Q0 M0 R0 P0 X0 U0 V0 W0 Z0 B1 A1 I1 G1 F1 E1 D1 S1 W1 X1 Y1 Z1 T1 U1 A2 B2 D2 E2 F2 G2 V1 I2 J2 J1 M1 N1 P1 Q1 R1 x) s =
 (bif Nat.beq i 2 then
 ((dA H).bop .add 3 G1 (.int .i64 1)).bind fun v85 =>
 nx (f61_l0_m E0 B0 J0 Q0 M0 R0 P0 X0 U0 V0 W0 Z0 B1 A1 I1 (x.1,D0,F0,x.2.1,v85)) s else (bif Nat.beq i 1 then
 ((dA H).bop .add 3 G1 (.int .i64 1)).bind fun v86 =>
 nx (f61_l0_m E0 B0 J0 Q0 M0 R0 P0 X0 U0 V0 W0 Z0 B1 A1 I1 (x.1,D0,F0,x.2.1,v86)) s else K (.exit i) (f61_l0_m E0 B0 J0 Q0 M0 R0 P0 X0 U0 V0 W0 Z0 B1 A1 I1 (x.1,D0,F0,x.2.1,G1)) s)):=by kernel_rfl
theorem f61_l0_b (x:Value×Value×Value×Value×Value) (s:St H) (nx:List Value→St H→RsT H) (K:Ex→List Value→St H→RsT H) :
 exec prog false C n 61 none (cdp Try.f61 [1,1,1,1,0,1,0,0]) (f61_l0_m E0 B0 J0 Q0 M0 R0 P0 X0 U0 V0 W0 Z0 B1 A1 I1 x) s (kIter (scratch (cdp Try.f61 [1,1,1,1,0,1,0,0])) nx K)=f61_l0 (dOps (H:=H) prog) C n E0 A1 I1 (fun x s=>nx (f61_l0_m E0 B0 J0 Q0 M0 R0 P0 X0 U0 V0 W0 Z0 B1 A1 I1 x) s) (fun i x s=>K (.exit i) (f61_l0_m E0 B0 J0 Q0 M0 R0 P0 X0 U0 V0 W0 Z0 B1 A1 I1 x) s) (fun x s=>K .ret (f61_l0_m E0 B0 J0 Q0 M0 R0 P0 X0 U0 V0 W0 Z0 B1 A1 I1 x) s) x s:=by
  have h1:exec prog false C n 61 none (cdp Try.f61 [1,1,1,1,0,1,0,0]) (f61_l0_m E0 B0 J0 Q0 M0 R0 P0 X0 U0 V0 W0 Z0 B1 A1 I1 x) s (kIter (scratch (cdp Try.f61 [1,1,1,1,0,1,0,0])) nx K) =
 ((dA H).bop .lss 3 x.2.2.2.2 I1).bind fun v65 =>
 ((dA H).boolO v65).bind fun b66=>cond b66 (
 ((dA H).indexAddr 67 A1 x.2.2.2.2).bind fun v67 =>
 ((dA H).load s 70 v67).bind fun v68 =>
 ((dA H).bop .sub 70 v68 x.2.1).bind fun v69 =>
 (oneO C (.fn 72) [x.1,v69] s).bind fun p70 =>
 ((dA H).nilCheck E0).bind fun v71 =>
 ((dA H).fieldAddr 158 v71 0).bind fun v72 =>
 ((dA H).load p70.2 156 v72).bind fun v73 =>
 ((dA H).lookup p70.2 156 v73 v68 false).bind fun v74 =>
 ((dA H).len p70.2 160 v74).bind fun v75 =>
 ((dA H).conv false p70.2 3 70 v75).bind fun p76 =>
 (oneO C (.fn 72) [p70.1,p76.1] p76.2).bind fun p77 =>
 bif (eqO H (((dA H).conv false s 3 70 v75).map (·.1)) p76.1&&(eqO H (((dA H).conv false p70.2 3 70 v75).map (·.1)) p76.1&&(true)))&&((eqO H ((dA H).len s 160 v74) v75&&(eqO H ((dA H).len p70.2 160 v74) v75&&(true)))&&((eqO H ((dA H).lookup s 156 v73 v68 false) v74&&(eqO H ((dA H).lookup p70.2 156 v73 v68 false) v74&&(true)))&&((eqO H ((dA H).load s 156 v72) v73&&(eqO H ((dA H).load p70.2 156 v72) v73&&(true)))&&(true)))) then
 ((dA H).nilCheck E0).bind fun v78 =>
 ((dA H).fieldAddr 158 v78 0).bind fun v79 =>
 ((dA H).load p77.2 156 v79).bind fun v80 =>
 ((dA H).lookup p77.2 156 v80 v68 false).bind fun v81 =>
 ((dA H).len p77.2 160 v81).bind fun v82 =>
 iter (fun t s k=>exec prog false C n 61 none (cdp Try.f61 [1,1,1,1,0,1,0,0,1,1,0,0,1,1,1,1,1,0,0]) t s k) (scratch (cdp Try.f61 [1,1,1,1,0,1,0,0,1,1,0,0,1,1,1,1,1,0,0])) n (f61_l1_m E0 B0 v68 v68 J0 Q0 M0 R0 P0 X0 U0 V0 W0 Z0 B1 A1 I1 x.2.2.2.2 v65 v67 v68 x.1 v68 x.2.1 v69 p70.1 E0 v71 v72 v73 v68 v74 v75 p76.1 p77.1 v68 E0 v78 v79 v80 v68 v81 v82 (p77.1,(Value.int IntKind.i64 0),(Value.int IntKind.i64 0))) p77.2 (kBlock 2 (kBlock 1 (kSeq prog false C n 61 none (cdp Try.f61 [1,1,1,1,0,1,0,0,1,1,1]) (kIter (scratch (cdp Try.f61 [1,1,1,1,0,1,0,0])) nx K))))
 else none) (
 K (.exit 0) (f61_l0_m E0 B0 J0 Q0 M0 R0 P0 X0 U0 V0 W0 Z0 B1 A1 I1 (x.1,x.2.1,x.2.2.1,x.2.2.2.1,x.2.2.2.2)) s):=by kernel_rfl
  rw [h1]
  simp only [f61_l1_e,f61_l1_k]
  show _=f61_l0 (dOps (H:=H) prog) C n E0 A1 I1 (fun x s=>nx (f61_l0_m E0 B0 J0 Q0 M0 R0 P0 X0 U0 V0 W0 Z0 B1 A1 I1 x) s) (fun i x s=>K (.exit i) (f61_l0_m E0 B0 J0 Q0 M0 R0 P0 X0 U0 V0 W0 Z0 B1 A1 I1 x) s) (fun x s=>K .ret (f61_l0_m E0 B0 J0 Q0 M0 R0 P0 X0 U0 V0 W0 Z0 B1 A1 I1 x) s) x s
  kernel_rfl
theorem f61_l0_e (m:Nat) (x:Value×Value×Value×Value×Value) (s:St H) (K:Ex→List Value→St H→RsT H) :
 iter (fun t s k=>exec prog false C n 61 none (cdp Try.f61 [1,1,1,1,0,1,0,0]) t s k) (scratch (cdp Try.f61 [1,1,1,1,0,1,0,0])) m (f61_l0_m E0 B0 J0 Q0 M0 R0 P0 X0 U0 V0 W0 Z0 B1 A1 I1 x) s K=iterS (f61_l0 (dOps (H:=H) prog) C n E0 A1 I1) (fun i x s=>K (.exit i) (f61_l0_m E0 B0 J0 Q0 M0 R0 P0 X0 U0 V0 W0 Z0 B1 A1 I1 x) s) (fun x s=>K .ret (f61_l0_m E0 B0 J0 Q0 M0 R0 P0 X0 U0 V0 W0 Z0 B1 A1 I1 x) s) m x s :=
   iter_eq (f61_l0_m E0 B0 J0 Q0 M0 R0 P0 X0 U0 V0 W0 Z0 B1 A1 I1) (f61_l0 (dOps (H:=H) prog) C n E0 A1 I1) (fun x s nx K=>f61_l0_b C n E0 B0 J0 Q0 M0 R0 P0 X0 U0 V0 W0 Z0 B1 A1 I1 x s nx K) K m x s
noncomputable def f61 (O:Ops H) (C:OracleJ H) (n:Nat) (a0:Value) (s:St H):RsT H :=
 (C (.fn 101) [a0] s).bind fun L1=>manyK L1 fun v2 s3 =>
 (O.uop .not v2).bind fun v4 =>
 (O.boolO v4).bind fun b5=>cond b5 (
 some [((fzV 2 #[]),s3)]) (
 (O.nilCheck a0).bind fun v6 =>
 (O.fieldAddr 158 v6 0).bind fun v7 =>
 (O.load s3 156 v7).bind fun v8 =>
 (O.len s3 156 v8).bind fun v9 =>
 (O.conv false s3 3 70 v9).bind fun p10 =>
 (C (.fn 72) [(fzV 2 #[]),p10.1] p10.2).bind fun L11=>manyK L11 fun v12 s13 =>
 (C (.fn 109) [a0] s13).bind fun L14=>manyK L14 fun v15 s16 =>
 (O.len s16 67 v15).bind fun v17 =>
 iterS (f61_l0 O C n a0 v15 v17 )
 (fun P3 x88 s89=>(bif Nat.beq P3 0 then
 some [(x88.1,s89)] else none))
 (fun x90 s91=>some [((fzV 2 #[]),s91)]) n (v12,(Value.int IntKind.u64 0),undefV,undefV,(Value.int IntKind.i64 0)) s16)
theorem f61_l0_k (i:Nat) (x:Value×Value×Value×Value×Value) (s:St H):(kBlock 0 (kSeq prog false C n 61 none (cdp Try.f61 [1,1,1,1,1]) (kFun prog Try.f61))) (.exit i) (f61_l0_m E0 B0 J0 Q0 M0 R0 P0 X0 U0 V0 W0 Z0 B1 A1 I1 x) s =
 (bif Nat.beq i 0 then
 some [(x.1,s)] else none):=by kernel_rfl
theorem f61_r (C:OracleJ H) (n:Nat) (a0:Value) (s:St H):bodyD prog false C n 61 Try.f61 [a0] s=f61 (dOps (H:=H) prog) C n a0 s:=by
  have h1:bodyD prog false C n 61 Try.f61 [a0] s =
 (C (.fn 101) [a0] s).bind fun L92=>manyK L92 fun v93 s94 =>
 ((dA H).uop .not v93).bind fun v95 =>
 ((dA H).boolO v95).bind fun b96=>cond b96 (
 some [((fzV 2 #[]),s94)]) (
 ((dA H).nilCheck a0).bind fun v97 =>
 ((dA H).fieldAddr 158 v97 0).bind fun v98 =>
 ((dA H).load s94 156 v98).bind fun v99 =>
 ((dA H).len s94 156 v99).bind fun v100 =>
 ((dA H).conv false s94 3 70 v100).bind fun p101 =>
 (C (.fn 72) [(fzV 2 #[]),p101.1] p101.2).bind fun L102=>manyK L102 fun v103 s104 =>
 (C (.fn 109) [a0] s104).bind fun L105=>manyK L105 fun v106 s107 =>
 ((dA H).len s107 67 v106).bind fun v108 =>
 iter (fun t s k=>exec prog false C n 61 none (cdp Try.f61 [1,1,1,1,0,1,0,0]) t s k) (scratch (cdp Try.f61 [1,1,1,1,0,1,0,0])) n (f61_l0_m a0 (fzV 2 #[]) a0 v93 v95 a0 v97 v98 v99 v100 p101.1 v103 a0 v106 v108 (v103,(Value.int IntKind.u64 0),undefV,undefV,(Value.int IntKind.i64 0))) s107 (kBlock 0 (kSeq prog false C n 61 none (cdp Try.f61 [1,1,1,1,1]) (kFun prog Try.f61)))):=by kernel_rfl
  rw [h1]
  simp only [f61_l0_e,f61_l0_k]
  show _=f61 (dOps (H:=H) prog) C n a0 s
  kernel_rfl
noncomputable def f72 (O:Ops H) (C:OracleJ H) (n:Nat) (a0 a1:Value) (s:St H):RsT H :=
 (C (.fn 123) [a0,a1,(.func (.func 124) #[] #[])] s).bind fun L1=>manyK L1 fun v2 s3 =>
 some [(v2,s3)]
theorem f72_r (C:OracleJ H) (n:Nat) (a0 a1:Value) (s:St H):bodyD prog false C n 72 Try.f72 [a0,a1] s=f72 (dOps (H:=H) prog) C n a0 a1 s:=by kernel_rfl
noncomputable def f101 (O:Ops H) (C:OracleJ H) (n:Nat) (a0:Value) (s:St H):RsT H :=
 (O.bop .neq 81 a0 (Go.Value.pointer none)).bind fun v1 =>
 gd v1 (
 (O.nilCheck a0).bind fun v2 =>
 (O.fieldAddr 158 v2 0).bind fun v3 =>
 (O.load s 156 v3).bind fun v4 =>
 (O.bop .neq 156 v4 (Go.Value.map none)).bind fun v5 =>
 some [(v5,s)]) (
 some [((.bool false),s)]) (
 none)
theorem f101_r (C:OracleJ H) (n:Nat) (a0:Value) (s:St H):bodyD prog false C n 101 Try.f101 [a0] s=f101 (dOps (H:=H) prog) C n a0 s:=by kernel_rfl
def f102_l0_m (E0 A0 B0 T0 N0:Value) (x:Value×Value×Value×Value):List Value:=[E0,A0,B0,undefV,x.1,x.2.1,undefV,x.2.2.1,T0,N0,x.2.2.2,dc,dc,dc,dc,dc,dc,dc,dc,undefV,undefV,undefV,undefV,undefV,undefV,undefV,undefV,undefV,undefV,undefV,undefV,undefV,undefV,undefV]
noncomputable def f102_l0 (O:Ops H) (C:OracleJ H) (n:Nat) (T0 N0:Value) (nx:(Value×Value×Value×Value)→St H→RsT H) (kx:Nat→(Value×Value×Value×Value)→St H→RsT H) (kr:(Value×Value×Value×Value)→St H→RsT H) (x:Value×Value×Value×Value) (s:St H):RsT H :=
 (O.bop .lss 3 x.2.2.2 N0).bind fun v3 =>
 (O.boolO v3).bind fun b4=>cond b4 (
 (O.indexAddr 67 T0 x.2.2.2).bind fun v5 =>
 (O.load s 70 v5).bind fun v6 =>
 (O.bop .leq 70 v6 x.2.1).bind fun v7 =>
 (O.boolO v7).bind fun b8=>cond b8 (
 kr ((.bool false),x.2.1,v6,x.2.2.2) s) (
 (O.bop .add 3 x.2.2.2 (.int .i64 1)).bind fun v9 =>
 nx (x.1,v6,v6,v9) s)) (
 kx 0 (x.1,x.2.1,x.2.2.1,x.2.2.2) s)
theorem f102_l0_b (x:Value×Value×Value×Value) (s:St H) (nx:List Value→St H→RsT H) (K:Ex→List Value→St H→RsT H) :
 exec prog false C n 102 none (cdp Try.f102 [1,1,0,1,0,0]) (f102_l0_m E0 A0 B0 T0 N0 x) s (kIter (scratch (cdp Try.f102 [1,1,0,1,0,0])) nx K)=f102_l0 (dOps (H:=H) prog) C n T0 N0 (fun x s=>nx (f102_l0_m E0 A0 B0 T0 N0 x) s) (fun i x s=>K (.exit i) (f102_l0_m E0 A0 B0 T0 N0 x) s) (fun x s=>K .ret (f102_l0_m E0 A0 B0 T0 N0 x) s) x s:=by kernel_rfl
theorem f102_l0_e (m:Nat) (x:Value×Value×Value×Value) (s:St H) (K:Ex→List Value→St H→RsT H) :
 iter (fun t s k=>exec prog false C n 102 none (cdp Try.f102 [1,1,0,1,0,0]) t s k) (scratch (cdp Try.f102 [1,1,0,1,0,0])) m (f102_l0_m E0 A0 B0 T0 N0 x) s K=iterS (f102_l0 (dOps (H:=H) prog) C n T0 N0) (fun i x s=>K (.exit i) (f102_l0_m E0 A0 B0 T0 N0 x) s) (fun x s=>K .ret (f102_l0_m E0 A0 B0 T0 N0 x) s) m x s :=
   iter_eq (f102_l0_m E0 A0 B0 T0 N0) (f102_l0 (dOps (H:=H) prog) C n T0 N0) (fun x s nx K=>f102_l0_b C n E0 A0 B0 T0 N0 x s nx K) K m x s
noncomputable def f102 (O:Ops H) (C:OracleJ H) (n:Nat) (a0 a1:Value) (s:St H):RsT H :=
 (O.box s a0).bind fun p1 =>
 (O.len p1.2 67 a1).bind fun v2 =>
 iterS (f102_l0 O C n a1 v2 )
 (fun J0 x11 s12=>(bif Nat.beq J0 0 then
 (O.fieldAddr 69 p1.1 0).bind fun v15 =>
 (O.load s12 3 v15).bind fun v16 =>
 (O.bop .geq 3 v16 (.int .i64 0)).bind fun v17 =>
 gd v17 (
 (O.fieldAddr 69 p1.1 0).bind fun v18 =>
 (O.load s12 3 v18).bind fun v19 =>
 (O.fieldAddr 69 p1.1 1).bind fun v20 =>
 (O.load s12 3 v20).bind fun v21 =>
 (O.bop .leq 3 v19 v21).bind fun v22 =>
 gd v22 (
 (O.fieldAddr 69 p1.1 1).bind fun v23 =>
 (O.load s12 3 v23).bind fun v24 =>
 (O.bop .leq 3 v24 (.int .i64 35184372088832)).bind fun v25 =>
 some [(v25,s12)]) (
 some [((.bool false),s12)]) (
 none)) (
 some [((.bool false),s12)]) (
 none) else none))
 (fun x13 s14=>some [(x13.1,s14)]) n ((.bool false),(Value.int IntKind.u64 0),undefV,(Value.int IntKind.i64 0)) p1.2
theorem f102_l0_k (i:Nat) (x:Value×Value×Value×Value) (s:St H):(kBlock 0 (kSeq prog false C n 102 none (cdp Try.f102 [1,1,1]) (kFun prog Try.f102))) (.exit i) (f102_l0_m E0 A0 B0 T0 N0 x) s =
 (bif Nat.beq i 0 then
 ((dA H).fieldAddr 69 B0 0).bind fun v39 =>
 ((dA H).load s 3 v39).bind fun v40 =>
 ((dA H).bop .geq 3 v40 (.int .i64 0)).bind fun v41 =>
 gd v41 (
 ((dA H).fieldAddr 69 B0 0).bind fun v42 =>
 ((dA H).load s 3 v42).bind fun v43 =>
 ((dA H).fieldAddr 69 B0 1).bind fun v44 =>
 ((dA H).load s 3 v44).bind fun v45 =>
 ((dA H).bop .leq 3 v43 v45).bind fun v46 =>
 gd v46 (
 ((dA H).fieldAddr 69 B0 1).bind fun v47 =>
 ((dA H).load s 3 v47).bind fun v48 =>
 ((dA H).bop .leq 3 v48 (.int .i64 35184372088832)).bind fun v49 =>
 some [(v49,s)]) (
 some [((.bool false),s)]) (
 none)) (
 some [((.bool false),s)]) (
 none) else none):=by kernel_rfl
theorem f102_r (C:OracleJ H) (n:Nat) (a0 a1:Value) (s:St H):bodyD prog false C n 102 Try.f102 [a0,a1] s=f102 (dOps (H:=H) prog) C n a0 a1 s:=by
  have h1:bodyD prog false C n 102 Try.f102 [a0,a1] s =
 ((dA H).box s a0).bind fun p26 =>
 ((dA H).len p26.2 67 a1).bind fun v27 =>
 iter (fun t s k=>exec prog false C n 102 none (cdp Try.f102 [1,1,0,1,0,0]) t s k) (scratch (cdp Try.f102 [1,1,0,1,0,0])) n (f102_l0_m a0 a1 p26.1 a1 v27 ((.bool false),(Value.int IntKind.u64 0),undefV,(Value.int IntKind.i64 0))) p26.2 (kBlock 0 (kSeq prog false C n 102 none (cdp Try.f102 [1,1,1]) (kFun prog Try.f102))):=by kernel_rfl
  rw [h1]
  simp only [f102_l0_e,f102_l0_k]
  show _=f102 (dOps (H:=H) prog) C n a0 a1 s
  kernel_rfl
def f103_l0_m (E0 A0 B0 D0 F0 Q0 M0:Value) (x:Value×Value×Value×Value×Value):List Value:=[E0,A0,B0,undefV,D0,undefV,F0,x.1,x.2.1,undefV,dc,Q0,M0,x.2.2.1,dc,dc,dc,dc,dc,dc,dc,dc,dc,dc,dc,dc,dc,dc,x.2.2.2.1,dc,dc,dc,dc,dc,dc,dc,dc,dc,dc,dc,x.2.2.2.2,dc,dc,dc,dc,dc,dc,dc,dc,dc,dc,dc,dc,dc,dc,dc,dc,dc,dc,undefV,undefV,undefV,undefV,undefV,undefV,undefV]
noncomputable def f103_l0 (O:Ops H) (C:OracleJ H) (n:Nat) (B0 D0 Q0 M0:Value) (nx:(Value×Value×Value×Value×Value)→St H→RsT H) (kx:Nat→(Value×Value×Value×Value×Value)→St H→RsT H) (kr:(Value×Value×Value×Value×Value)→St H→RsT H) (x:Value×Value×Value×Value×Value) (s:St H):RsT H :=
 (O.bop .lss 3 x.2.2.1 M0).bind fun v3 =>
 (O.boolO v3).bind fun b4=>cond b4 (
 (O.indexAddr 160 Q0 x.2.2.1).bind fun v5 =>
 (O.load s 163 v5).bind fun v6 =>
 (O.alloc s 163).bind fun p7 =>
 (O.store p7.2 163 p7.1 v6).bind fun s8 =>
 (O.fieldAddr 163 p7.1 1).bind fun v9 =>
 (O.load s8 3 v9).bind fun v10 =>
 (O.fieldAddr 163 D0 0).bind fun v11 =>
 (O.load s8 3 v11).bind fun v12 =>
 (O.tgt B0 [v10,v12]).bind fun g13=>(C g13.1 g13.2 s8).bind fun L14=>manyK L14 fun v15 s16 =>
 (O.uop .not v15).bind fun v17 =>
 jn (fun (j559_7:Value) (j559_8:Value) (j559_40:Value) (js559:St H) =>
 (O.bop .add 3 x.2.2.1 (.int .i64 1)).bind fun v55 =>
 nx (j559_7,j559_8,v55,v17,j559_40) js559) fun k559 =>
 (O.boolO v17).bind fun b18=>cond b18 (
 (O.load s16 163 p7.1).bind fun v19 =>
 (O.buildSlice false s16 160 1 [(0,v19)]).bind fun p20 =>
 (O.append false p20.2 160 160 x.1 p20.1).bind fun p21 =>
 k559 p21.1 x.2.1 x.2.2.2.2 p21.2) (
 (O.fieldAddr 163 D0 1).bind fun v22 =>
 (O.load s16 3 v22).bind fun v23 =>
 (O.fieldAddr 163 p7.1 0).bind fun v24 =>
 (O.load s16 3 v24).bind fun v25 =>
 (O.tgt B0 [v23,v25]).bind fun g26=>(C g26.1 g26.2 s16).bind fun L27=>manyK L27 fun v28 s29 =>
 (O.uop .not v28).bind fun v30 =>
 jn (fun (j562_7:Value) (j562_8:Value) (js562:St H) =>
 k559 j562_7 j562_8 v30 js562) fun k562 =>
 (O.boolO v30).bind fun b31=>cond b31 (
 (O.uop .not x.2.1).bind fun v32 =>
 jn (fun (j564_7:Value) (j564_8:Value) (js564:St H) =>
 (O.load js564 163 p7.1).bind fun v40 =>
 (O.buildSlice false js564 160 1 [(0,v40)]).bind fun p41 =>
 (O.append false p41.2 160 160 j564_7 p41.1).bind fun p42 =>
 k562 p42.1 j564_8 p42.2) fun k564 =>
 (O.boolO v32).bind fun b33=>cond b33 (
 (O.load s29 163 D0).bind fun v34 =>
 (O.buildSlice false s29 160 1 [(0,v34)]).bind fun p35 =>
 (O.append false p35.2 160 160 x.1 p35.1).bind fun p36 =>
 k564 p36.1 (.bool true) p36.2) (
 k564 x.1 x.2.1 s29)) (
 (O.fieldAddr 163 D0 0).bind fun v43 =>
 (O.load s29 3 v43).bind fun v44 =>
 (O.fieldAddr 163 p7.1 0).bind fun v45 =>
 (O.load s29 3 v45).bind fun v46 =>
 (O.minO v44 [v46]).bind fun v47 =>
 (O.fieldAddr 163 D0 1).bind fun v48 =>
 (O.load s29 3 v48).bind fun v49 =>
 (O.fieldAddr 163 p7.1 1).bind fun v50 =>
 (O.load s29 3 v50).bind fun v51 =>
 (O.maxO v49 [v51]).bind fun v52 =>
 (O.build 163 [(0,v47),(1,v52)]).bind fun v53 =>
 (O.store s29 163 D0 v53).bind fun s54 =>
 k562 x.1 x.2.1 s54))) (
 kx 0 (x.1,x.2.1,x.2.2.1,x.2.2.2.1,x.2.2.2.2) s)
theorem f103_l0_b (x:Value×Value×Value×Value×Value) (s:St H) (nx:List Value→St H→RsT H) (K:Ex→List Value→St H→RsT H) :
 exec prog false C n 103 none (cdp Try.f103 [1,1,1,0,1,0,0]) (f103_l0_m E0 A0 B0 D0 F0 Q0 M0 x) s (kIter (scratch (cdp Try.f103 [1,1,1,0,1,0,0])) nx K)=f103_l0 (dOps (H:=H) prog) C n B0 D0 Q0 M0 (fun x s=>nx (f103_l0_m E0 A0 B0 D0 F0 Q0 M0 x) s) (fun i x s=>K (.exit i) (f103_l0_m E0 A0 B0 D0 F0 Q0 M0 x) s) (fun x s=>K .ret (f103_l0_m E0 A0 B0 D0 F0 Q0 M0 x) s) x s:=by kernel_rfl
theorem f103_l0_e (m:Nat) (x:Value×Value×Value×Value×Value) (s:St H) (K:Ex→List Value→St H→RsT H) :
 iter (fun t s k=>exec prog false C n 103 none (cdp Try.f103 [1,1,1,0,1,0,0]) t s k) (scratch (cdp Try.f103 [1,1,1,0,1,0,0])) m (f103_l0_m E0 A0 B0 D0 F0 Q0 M0 x) s K=iterS (f103_l0 (dOps (H:=H) prog) C n B0 D0 Q0 M0) (fun i x s=>K (.exit i) (f103_l0_m E0 A0 B0 D0 F0 Q0 M0 x) s) (fun x s=>K .ret (f103_l0_m E0 A0 B0 D0 F0 Q0 M0 x) s) m x s :=
   iter_eq (f103_l0_m E0 A0 B0 D0 F0 Q0 M0) (f103_l0 (dOps (H:=H) prog) C n B0 D0 Q0 M0) (fun x s nx K=>f103_l0_b C n E0 A0 B0 D0 F0 Q0 M0 x s nx K) K m x s
noncomputable def f103 (O:Ops H) (C:OracleJ H) (n:Nat) (a0 a1 a2:Value) (s:St H):RsT H :=
 (O.box s a1).bind fun p1 =>
 (O.len p1.2 160 a0).bind fun v2 =>
 iterS (f103_l0 O C n a2 p1.1 a0 v2 )
 (fun V2 x57 s58=>(bif Nat.beq V2 0 then
 (O.uop .not x57.2.1).bind fun v61 =>
 (O.boolO v61).bind fun b62=>cond b62 (
 (O.load s58 163 p1.1).bind fun v63 =>
 (O.buildSlice false s58 160 1 [(0,v63)]).bind fun p64 =>
 (O.append false p64.2 160 160 x57.1 p64.1).bind fun p65 =>
 some [(p65.1,p65.2)]) (
 some [(x57.1,s58)]) else none))
 (fun x59 s60=>some [((fzV 2 #[]),s60)]) n ((fzV 2 #[]),(.bool false),(Value.int IntKind.i64 0),undefV,undefV) p1.2
theorem f103_l0_k (i:Nat) (x:Value×Value×Value×Value×Value) (s:St H):(kBlock 0 (kSeq prog false C n 103 none (cdp Try.f103 [1,1,1,1]) (kFun prog Try.f103))) (.exit i) (f103_l0_m E0 A0 B0 D0 F0 Q0 M0 x) s =
 (bif Nat.beq i 0 then
 ((dA H).uop .not x.2.1).bind fun v73 =>
 ((dA H).boolO v73).bind fun b74=>cond b74 (
 ((dA H).load s 163 D0).bind fun v75 =>
 ((dA H).buildSlice false s 160 1 [(0,v75)]).bind fun p76 =>
 ((dA H).append false p76.2 160 160 x.1 p76.1).bind fun p77 =>
 some [(p77.1,p77.2)]) (
 some [(x.1,s)]) else none):=by kernel_rfl
theorem f103_r (C:OracleJ H) (n:Nat) (a0 a1 a2:Value) (s:St H):bodyD prog false C n 103 Try.f103 [a0,a1,a2] s=f103 (dOps (H:=H) prog) C n a0 a1 a2 s:=by
  have h1:bodyD prog false C n 103 Try.f103 [a0,a1,a2] s =
 ((dA H).box s a1).bind fun p66 =>
 ((dA H).len p66.2 160 a0).bind fun v67 =>
 iter (fun t s k=>exec prog false C n 103 none (cdp Try.f103 [1,1,1,0,1,0,0]) t s k) (scratch (cdp Try.f103 [1,1,1,0,1,0,0])) n (f103_l0_m a0 a1 a2 p66.1 (fzV 2 #[]) a0 v67 ((fzV 2 #[]),(.bool false),(Value.int IntKind.i64 0),undefV,undefV)) p66.2 (kBlock 0 (kSeq prog false C n 103 none (cdp Try.f103 [1,1,1,1]) (kFun prog Try.f103))):=by kernel_rfl
  rw [h1]
  simp only [f103_l0_e,f103_l0_k]
  show _=f103 (dOps (H:=H) prog) C n a0 a1 a2 s
  kernel_rfl
noncomputable def f104 (O:Ops H) (C:OracleJ H) (n:Nat) (a0 a1:Value) (s:St H):RsT H :=
 (O.bop .add 3 a0 (.int .i64 1)).bind fun v1 =>
 (O.bop .leq 3 a1 v1).bind fun v2 =>
 some [(v2,s)]
theorem f104_r (C:OracleJ H) (n:Nat) (a0 a1:Value) (s:St H):bodyD prog false C n 104 Try.f104 [a0,a1] s=f104 (dOps (H:=H) prog) C n a0 a1 s:=by kernel_rfl
noncomputable def f105 (O:Ops H) (C:OracleJ H) (n:Nat) (a0 a1:Value) (s:St H):RsT H :=
 (O.box s a0).bind fun p1 =>
 (O.box p1.2 a1).bind fun p2 =>
 some [((.func (.func 153) #[] #[p1.1,p2.1]),p2.2)]
theorem f105_r (C:OracleJ H) (n:Nat) (a0 a1:Value) (s:St H):bodyD prog false C n 105 Try.f105 [a0,a1] s=f105 (dOps (H:=H) prog) C n a0 a1 s:=by kernel_rfl
noncomputable def f106 (O:Ops H) (C:OracleJ H) (n:Nat) (a0:Value) (s:St H):RsT H :=
 (C (.fn 154) [(fzV 2 #[]),a0] s).bind fun L1=>manyK L1 fun v2 s3 =>
 some [(v2,s3)]
theorem f106_r (C:OracleJ H) (n:Nat) (a0:Value) (s:St H):bodyD prog false C n 106 Try.f106 [a0] s=f106 (dOps (H:=H) prog) C n a0 s:=by kernel_rfl
def f107_l0_m (E0 A0 G0 D0 S0:Value) (x:Value×Value):List Value:=[E0,A0,undefV,G0,D0,x.1,x.2,S0,dc,dc,dc,dc,dc,dc,dc,dc,dc,dc,dc,dc,dc,dc,dc,dc,dc,dc,dc,dc,dc,dc,dc,dc,undefV,undefV,undefV,undefV,undefV,undefV,undefV,undefV,undefV,undefV,undefV,undefV,undefV,undefV,undefV,undefV,undefV,undefV,undefV,undefV,undefV,undefV,undefV,undefV,undefV,undefV,undefV,undefV,undefV,undefV,undefV,undefV,undefV,undefV,undefV,undefV,undefV,undefV,undefV,undefV,undefV,undefV,undefV]
noncomputable def f107_l0 (O:Ops H) (C:OracleJ H) (n:Nat) (E0 G0:Value) (nx:(Value×Value)→St H→RsT H) (kx:Nat→(Value×Value)→St H→RsT H) (kr:(Value×Value)→St H→RsT H) (x:Value×Value) (s:St H):RsT H :=
 jn (fun (j603_22:Value) =>
 (O.boolO j603_22).bind fun b18=>cond b18 (
 (O.indexAddr 80 E0 x.2).bind fun v19 =>
 (O.load s 69 v19).bind fun v20 =>
 (O.buildSlice false s 80 1 [(0,v20)]).bind fun p21 =>
 (O.append false p21.2 80 80 x.1 p21.1).bind fun p22 =>
 (O.bop .add 3 x.2 (.int .i64 1)).bind fun v23 =>
 nx (p22.1,v23) p22.2) (
 kx 0 (x.1,x.2) s)) fun k603 =>
 (O.len s 80 E0).bind fun v3 =>
 (O.bop .lss 3 x.2 v3).bind fun v4 =>
 gd v4 (
 (O.indexAddr 80 E0 x.2).bind fun v5 =>
 (O.fieldAddr 69 v5 1).bind fun v6 =>
 (O.load s 3 v6).bind fun v7 =>
 (O.fieldAddr 69 G0 0).bind fun v8 =>
 (O.load s 3 v8).bind fun v9 =>
 (O.bop .sub 3 v9 (.int .i64 1)).bind fun v10 =>
 (O.bop .lss 3 v7 v10).bind fun v11 =>
 k603 v11) (
 k603 (.bool false)) (
 none)
theorem f107_l0_b (x:Value×Value) (s:St H) (nx:List Value→St H→RsT H) (K:Ex→List Value→St H→RsT H) :
 exec prog false C n 107 none (cdp Try.f107 [1,1,1,0,0,0]) (f107_l0_m E0 A0 G0 D0 S0 x) s (kIter (scratch (cdp Try.f107 [1,1,1,0,0,0])) nx K)=f107_l0 (dOps (H:=H) prog) C n E0 G0 (fun x s=>nx (f107_l0_m E0 A0 G0 D0 S0 x) s) (fun i x s=>K (.exit i) (f107_l0_m E0 A0 G0 D0 S0 x) s) (fun x s=>K .ret (f107_l0_m E0 A0 G0 D0 S0 x) s) x s:=by kernel_rfl
theorem f107_l0_e (m:Nat) (x:Value×Value) (s:St H) (K:Ex→List Value→St H→RsT H) :
 iter (fun t s k=>exec prog false C n 107 none (cdp Try.f107 [1,1,1,0,0,0]) t s k) (scratch (cdp Try.f107 [1,1,1,0,0,0])) m (f107_l0_m E0 A0 G0 D0 S0 x) s K=iterS (f107_l0 (dOps (H:=H) prog) C n E0 G0) (fun i x s=>K (.exit i) (f107_l0_m E0 A0 G0 D0 S0 x) s) (fun x s=>K .ret (f107_l0_m E0 A0 G0 D0 S0 x) s) m x s :=
   iter_eq (f107_l0_m E0 A0 G0 D0 S0) (f107_l0 (dOps (H:=H) prog) C n E0 G0) (fun x s nx K=>f107_l0_b C n E0 A0 G0 D0 S0 x s nx K) K m x s
def f107_l1_m (E0 A0 G0 D0 I0 S0:Value) (x:Value):List Value:=[E0,A0,undefV,G0,D0,I0,x,S0,dc,dc,dc,dc,dc,dc,dc,dc,dc,dc,dc,dc,dc,dc,dc,dc,dc,dc,dc,dc,dc,dc,dc,dc,dc,dc,dc,dc,dc,dc,dc,dc,dc,dc,dc,dc,dc,dc,dc,dc,dc,dc,dc,dc,dc,dc,dc,dc,dc,dc,dc,dc,dc,dc,dc,dc,dc,dc,dc,undefV,undefV,undefV,undefV,undefV,undefV,undefV,undefV]
noncomputable def f107_l1 (O:Ops H) (C:OracleJ H) (n:Nat) (E0 G0:Value) (nx:Value→St H→RsT H) (kx:Nat→Value→St H→RsT H) (kr:Value→St H→RsT H) (x:Value) (s:St H):RsT H :=
 jn (fun (j613_46:Value) =>
 (O.boolO j613_46).bind fun b56=>cond b56 (
 (O.fieldAddr 69 G0 0).bind fun v57 =>
 (O.load s 3 v57).bind fun v58 =>
 (O.indexAddr 80 E0 x).bind fun v59 =>
 (O.fieldAddr 69 v59 0).bind fun v60 =>
 (O.load s 3 v60).bind fun v61 =>
 (O.minO v58 [v61]).bind fun v62 =>
 (O.fieldAddr 69 G0 1).bind fun v63 =>
 (O.load s 3 v63).bind fun v64 =>
 (O.indexAddr 80 E0 x).bind fun v65 =>
 (O.fieldAddr 69 v65 1).bind fun v66 =>
 (O.load s 3 v66).bind fun v67 =>
 (O.maxO v64 [v67]).bind fun v68 =>
 (O.fieldAddr 69 G0 0).bind fun v69 =>
 (O.store s 3 v69 v62).bind fun s70 =>
 (O.fieldAddr 69 G0 1).bind fun v71 =>
 (O.store s70 3 v71 v68).bind fun s72 =>
 bif (eqO H (O.load s 3 v66) v67&&(eqO H (O.load s70 3 v66) v67&&(true)))&&(true) then
 (O.bop .add 3 x (.int .i64 1)).bind fun v73 =>
 nx v73 s72
 else none) (
 kx 2 x s)) fun k613 =>
 (O.len s 80 E0).bind fun v29 =>
 (O.bop .lss 3 x v29).bind fun v30 =>
 gd v30 (
 (O.indexAddr 80 E0 x).bind fun v31 =>
 (O.fieldAddr 69 v31 0).bind fun v32 =>
 (O.load s 3 v32).bind fun v33 =>
 (O.fieldAddr 69 G0 1).bind fun v34 =>
 (O.load s 3 v34).bind fun v35 =>
 (O.bop .add 3 v35 (.int .i64 1)).bind fun v36 =>
 (O.bop .leq 3 v33 v36).bind fun v37 =>
 k613 v37) (
 k613 (.bool false)) (
 none)
theorem f107_l1_b (x:Value) (s:St H) (nx:List Value→St H→RsT H) (K:Ex→List Value→St H→RsT H) :
 exec prog false C n 107 none (cdp Try.f107 [1,1,1,1,0,0,0]) (f107_l1_m E0 A0 G0 D0 I0 S0 x) s (kIter (scratch (cdp Try.f107 [1,1,1,1,0,0,0])) nx K)=f107_l1 (dOps (H:=H) prog) C n E0 G0 (fun x s=>nx (f107_l1_m E0 A0 G0 D0 I0 S0 x) s) (fun i x s=>K (.exit i) (f107_l1_m E0 A0 G0 D0 I0 S0 x) s) (fun x s=>K .ret (f107_l1_m E0 A0 G0 D0 I0 S0 x) s) x s:=by kernel_rfl
theorem f107_l1_e (m:Nat) (x:Value) (s:St H) (K:Ex→List Value→St H→RsT H) :
 iter (fun t s k=>exec prog false C n 107 none (cdp Try.f107 [1,1,1,1,0,0,0]) t s k) (scratch (cdp Try.f107 [1,1,1,1,0,0,0])) m (f107_l1_m E0 A0 G0 D0 I0 S0 x) s K=iterS (f107_l1 (dOps (H:=H) prog) C n E0 G0) (fun i x s=>K (.exit i) (f107_l1_m E0 A0 G0 D0 I0 S0 x) s) (fun x s=>K .ret (f107_l1_m E0 A0 G0 D0 I0 S0 x) s) m x s :=
   iter_eq (f107_l1_m E0 A0 G0 D0 I0 S0) (f107_l1 (dOps (H:=H) prog) C n E0 G0) (fun x s nx K=>f107_l1_b C n E0 A0 G0 D0 I0 S0 x s nx K) K m x s
noncomputable def f107 (O:Ops H) (C:OracleJ H) (n:Nat) (a0 a1:Value) (s:St H):RsT H :=
 (O.box s a1).bind fun p1 =>
 (O.buildSlice false p1.2 80 0 []).bind fun p2 =>
 iterS (f107_l0 O C n a0 p1.1 )
 (fun F1 x25 s26=>(bif Nat.beq F1 0 then
 iterS (f107_l1 O C n a0 p1.1 )
 (fun N3 x75 s76=>(bif Nat.beq N3 2 then
 (O.load s76 69 p1.1).bind fun v79 =>
 (O.buildSlice false s76 80 1 [(0,v79)]).bind fun p80 =>
 (O.append false p80.2 80 80 x25.1 p80.1).bind fun p81 =>
 (O.slc p81.2 80 a0 (some x75) none none).bind fun v82 =>
 (O.append false p81.2 80 80 p81.1 v82).bind fun p83 =>
 some [(p83.1,p83.2)] else none))
 (fun x77 s78=>some [((fzV 2 #[]),s78)]) n x25.2 s26 else none))
 (fun x27 s28=>some [((fzV 2 #[]),s28)]) n (p2.1,(Value.int IntKind.i64 0)) p2.2
theorem f107_l1_k (i:Nat) (x:Value) (s:St H):(kBlock 2 (kSeq prog false C n 107 none (cdp Try.f107 [1,1,1,1,1]) (kFun prog Try.f107))) (.exit i) (f107_l1_m E0 A0 G0 D0 I0 S0 x) s =
 (bif Nat.beq i 2 then
 ((dA H).load s 69 G0).bind fun v91 =>
 ((dA H).buildSlice false s 80 1 [(0,v91)]).bind fun p92 =>
 ((dA H).append false p92.2 80 80 I0 p92.1).bind fun p93 =>
 ((dA H).slc p93.2 80 E0 (some x) none none).bind fun v94 =>
 ((dA H).append false p93.2 80 80 p93.1 v94).bind fun p95 =>
 some [(p95.1,p95.2)] else none):=by kernel_rfl
theorem f107_l0_k (i:Nat) (x:Value×Value) (s:St H):(kBlock 0 (kSeq prog false C n 107 none (cdp Try.f107 [1,1,1,1]) (kFun prog Try.f107))) (.exit i) (f107_l0_m E0 A0 G0 D0 S0 x) s =
 (bif Nat.beq i 0 then
 iterS (f107_l1 (dOps (H:=H) prog) C n E0 G0 )
 (fun I3 x97 s98=>(bif Nat.beq I3 2 then
 ((dA H).load s98 69 G0).bind fun v101 =>
 ((dA H).buildSlice false s98 80 1 [(0,v101)]).bind fun p102 =>
 ((dA H).append false p102.2 80 80 x.1 p102.1).bind fun p103 =>
 ((dA H).slc p103.2 80 E0 (some x97) none none).bind fun v104 =>
 ((dA H).append false p103.2 80 80 p103.1 v104).bind fun p105 =>
 some [(p105.1,p105.2)] else none))
 (fun x99 s100=>some [(D0,s100)]) n x.2 s else none):=by
  have h1:(kBlock 0 (kSeq prog false C n 107 none (cdp Try.f107 [1,1,1,1]) (kFun prog Try.f107))) (.exit i) (f107_l0_m E0 A0 G0 D0 S0 x) s =
 (bif Nat.beq i 0 then
 iter (fun t s k=>exec prog false C n 107 none (cdp Try.f107 [1,1,1,1,0,0,0]) t s k) (scratch (cdp Try.f107 [1,1,1,1,0,0,0])) n (f107_l1_m E0 A0 G0 D0 x.1 S0 x.2) s (kBlock 2 (kSeq prog false C n 107 none (cdp Try.f107 [1,1,1,1,1]) (kFun prog Try.f107))) else none):=by kernel_rfl
  rw [h1]
  simp only [f107_l1_e,f107_l1_k]
  show _=(bif Nat.beq i 0 then
 iterS (f107_l1 (dOps (H:=H) prog) C n E0 G0 )
 (fun I3 x97 s98=>(bif Nat.beq I3 2 then
 ((dA H).load s98 69 G0).bind fun v101 =>
 ((dA H).buildSlice false s98 80 1 [(0,v101)]).bind fun p102 =>
 ((dA H).append false p102.2 80 80 x.1 p102.1).bind fun p103 =>
 ((dA H).slc p103.2 80 E0 (some x97) none none).bind fun v104 =>
 ((dA H).append false p103.2 80 80 p103.1 v104).bind fun p105 =>
 some [(p105.1,p105.2)] else none))
 (fun x99 s100=>some [(D0,s100)]) n x.2 s else none)
  kernel_rfl
theorem f107_r (C:OracleJ H) (n:Nat) (a0 a1:Value) (s:St H):bodyD prog false C n 107 Try.f107 [a0,a1] s=f107 (dOps (H:=H) prog) C n a0 a1 s:=by
  have h1:bodyD prog false C n 107 Try.f107 [a0,a1] s =
 ((dA H).box s a1).bind fun p84 =>
 ((dA H).buildSlice false p84.2 80 0 []).bind fun p85 =>
 iter (fun t s k=>exec prog false C n 107 none (cdp Try.f107 [1,1,1,0,0,0]) t s k) (scratch (cdp Try.f107 [1,1,1,0,0,0])) n (f107_l0_m a0 a1 p84.1 (fzV 2 #[]) p85.1 (p85.1,(Value.int IntKind.i64 0))) p85.2 (kBlock 0 (kSeq prog false C n 107 none (cdp Try.f107 [1,1,1,1]) (kFun prog Try.f107))):=by kernel_rfl
  rw [h1]
  simp only [f107_l0_e,f107_l0_k]
  show _=f107 (dOps (H:=H) prog) C n a0 a1 s
  kernel_rfl
noncomputable def f108 (O:Ops H) (C:OracleJ H) (n:Nat) (a0:Value) (s:St H):RsT H :=
 (O.bop .eql 160 a0 (fzV 2 #[])).bind fun v1 =>
 (O.boolO v1).bind fun b2=>cond b2 (
 some [((fzV 2 #[]),s)]) (
 (O.buildSlice false s 160 0 []).bind fun p3 =>
 (O.append false p3.2 160 160 p3.1 a0).bind fun p4 =>
 some [(p4.1,p4.2)])
theorem f108_r (C:OracleJ H) (n:Nat) (a0:Value) (s:St H):bodyD prog false C n 108 Try.f108 [a0] s=f108 (dOps (H:=H) prog) C n a0 s:=by kernel_rfl
noncomputable def f109 (O:Ops H) (C:OracleJ H) (n:Nat) (a0:Value) (s:St H):RsT H :=
 (C (.fn 101) [a0] s).bind fun L1=>manyK L1 fun v2 s3 =>
 (O.uop .not v2).bind fun v4 =>
 (O.boolO v4).bind fun b5=>cond b5 (
 some [((fzV 2 #[]),s3)]) (
 (O.nilCheck a0).bind fun v6 =>
 (O.fieldAddr 158 v6 0).bind fun v7 =>
 (O.load s3 156 v7).bind fun v8 =>
 (C (.fn 156) [v8] s3).bind fun L9=>manyK L9 fun v10 s11 =>
 (C (.fn 155) [v10] s11).bind fun L12=>manyK L12 fun v13 s14 =>
 some [(v13,s14)])
theorem f109_r (C:OracleJ H) (n:Nat) (a0:Value) (s:St H):bodyD prog false C n 109 Try.f109 [a0] s=f109 (dOps (H:=H) prog) C n a0 s:=by kernel_rfl
def f110_l1_m (E0 B0 D0 I0 N0 J0 Q0 M0 R0 P0 X0 U0 V0 W0 Z0 B1 A1 I1 E1 D1 S1 W1 X1 Y1 Z1 T1 U1 A2 B2 D2 E2 F2 G2 V1 I2 J2 J1 M1 N1 P1 Q1 R1 M2 N2 P2 Q2 R2 S2 T2:Value) (x:Value×Value×Value):List Value:=[E0,undefV,B0,x.1,D0,I0,x.2.1,x.2.2,dc,N0,J0,Q0,M0,R0,P0,X0,U0,V0,W0,Z0,B1,A1,I1,dc,dc,E1,D1,S1,W1,X1,Y1,Z1,T1,U1,A2,B2,D2,E2,F2,G2,V1,I2,J2,J1,M1,N1,P1,Q1,R1,M2,N2,P2,Q2,R2,S2,T2,dc,dc,dc,dc,dc,dc,dc,dc,dc,dc,dc,dc,dc,dc,dc,dc,dc,dc,dc,dc,dc,dc,dc,dc,dc,dc,dc,dc,dc,dc,dc,dc,dc,dc,dc,dc,dc,dc,dc,dc,undefV]
noncomputable def f110_l1 (O:Ops H) (C:OracleJ H) (n:Nat) (E0 I0:Value) (nx:(Value×Value×Value)→St H→RsT H) (kx:Nat→(Value×Value×Value)→St H→RsT H) (kr:(Value×Value×Value)→St H→RsT H) (x:Value×Value×Value) (s:St H):RsT H :=
 (O.nilCheck E0).bind fun v38 =>
 (O.fieldAddr 93 v38 0).bind fun v39 =>
 (O.load s 91 v39).bind fun v40 =>
 (O.indexAddr 91 v40 I0).bind fun v41 =>
 (O.fieldAddr 171 v41 1).bind fun v42 =>
 (O.load s 80 v42).bind fun v43 =>
 (O.len s 80 v43).bind fun v44 =>
 (O.bop .lss 3 x.2.2 v44).bind fun v45 =>
 (O.boolO v45).bind fun b46=>cond b46 (
 (O.nilCheck E0).bind fun v47 =>
 (O.fieldAddr 93 v47 0).bind fun v48 =>
 (O.load s 91 v48).bind fun v49 =>
 (O.indexAddr 91 v49 I0).bind fun v50 =>
 (O.fieldAddr 171 v50 1).bind fun v51 =>
 (O.load s 80 v51).bind fun v52 =>
 (O.indexAddr 80 v52 x.2.2).bind fun v53 =>
 (O.load s 69 v53).bind fun v54 =>
 (O.alloc s 69).bind fun p55 =>
 (O.store p55.2 69 p55.1 v54).bind fun s56 =>
 (O.fieldAddr 69 p55.1 0).bind fun v57 =>
 (O.load s56 3 v57).bind fun v58 =>
 (O.bop .sub 3 v58 x.2.1).bind fun v59 =>
 (O.conv false s56 3 70 v59).bind fun p60 =>
 (oneO C (.fn 157) [x.1,p60.1] p60.2).bind fun p61 =>
 (O.fieldAddr 69 p55.1 1).bind fun v62 =>
 (O.load p61.2 3 v62).bind fun v63 =>
 (O.fieldAddr 69 p55.1 0).bind fun v64 =>
 (O.load p61.2 3 v64).bind fun v65 =>
 (O.bop .sub 3 v63 v65).bind fun v66 =>
 (O.conv false p61.2 3 70 v66).bind fun p67 =>
 (oneO C (.fn 157) [p61.1,p67.1] p67.2).bind fun p68 =>
 bif (eqO H ((O.conv false s56 3 70 v66).map (·.1)) p67.1&&(eqO H ((O.conv false p61.2 3 70 v66).map (·.1)) p67.1&&(true)))&&((eqO H (O.load s56 3 v64) v65&&(eqO H (O.load p61.2 3 v64) v65&&(true)))&&((eqO H (O.load s56 3 v62) v63&&(eqO H (O.load p61.2 3 v62) v63&&(true)))&&(true))) then
 (O.fieldAddr 69 p55.1 1).bind fun v69 =>
 (O.load p68.2 3 v69).bind fun v70 =>
 (O.bop .add 3 x.2.2 (.int .i64 1)).bind fun v71 =>
 nx (p68.1,v70,v71) p68.2
 else none) (
 kx 2 (x.1,x.2.1,x.2.2) s)
theorem f110_l1_b (x:Value×Value×Value) (s:St H) (nx:List Value→St H→RsT H) (K:Ex→List Value→St H→RsT H) :
 exec prog false C n 110 none (cdp Try.f110 [1,1,1,0,1,0,0,1,0,0,1,1,1,1,0,0]) (f110_l1_m E0 B0 D0 I0 N0 J0 Q0 M0 R0 P0 X0 U0 V0 W0 Z0 B1 A1 I1 E1 D1 S1 W1 X1 Y1 Z1 T1 U1 A2 B2 D2 E2 F2 G2 V1 I2 J2 J1 M1 N1 P1 Q1 R1 M2 N2 P2 Q2 R2 S2 T2 x) s (kIter (scratch (cdp Try.f110 [1,1,1,0,1,0,0,1,0,0,1,1,1,1,0,0])) nx K)=f110_l1 (dOps (H:=H) prog) C n E0 I0 (fun x s=>nx (f110_l1_m E0 B0 D0 I0 N0 J0 Q0 M0 R0 P0 X0 U0 V0 W0 Z0 B1 A1 I1 E1 D1 S1 W1 X1 Y1 Z1 T1 U1 A2 B2 D2 E2 F2 G2 V1 I2 J2 J1 M1 N1 P1 Q1 R1 M2 N2 P2 Q2 R2 S2 T2 x) s) (fun i x s=>K (.exit i) (f110_l1_m E0 B0 D0 I0 N0 J0 Q0 M0 R0 P0 X0 U0 V0 W0 Z0 B1 A1 I1 E1 D1 S1 W1 X1 Y1 Z1 T1 U1 A2 B2 D2 E2 F2 G2 V1 I2 J2 J1 M1 N1 P1 Q1 R1 M2 N2 P2 Q2 R2 S2 T2 x) s) (fun x s=>K .ret (f110_l1_m E0 B0 D0 I0 N0 J0 Q0 M0 R0 P0 X0 U0 V0 W0 Z0 B1 A1 I1 E1 D1 S1 W1 X1 Y1 Z1 T1 U1 A2 B2 D2 E2 F2 G2 V1 I2 J2 J1 M1 N1 P1 Q1 R1 M2 N2 P2 Q2 R2 S2 T2 x) s) x s:=by kernel_rfl
theorem f110_l1_e (m:Nat) (x:Value×Value×Value) (s:St H) (K:Ex→List Value→St H→RsT H) :
 iter (fun t s k=>exec prog false C n 110 none (cdp Try.f110 [1,1,1,0,1,0,0,1,0,0,1,1,1,1,0,0]) t s k) (scratch (cdp Try.f110 [1,1,1,0,1,0,0,1,0,0,1,1,1,1,0,0])) m (f110_l1_m E0 B0 D0 I0 N0 J0 Q0 M0 R0 P0 X0 U0 V0 W0 Z0 B1 A1 I1 E1 D1 S1 W1 X1 Y1 Z1 T1 U1 A2 B2 D2 E2 F2 G2 V1 I2 J2 J1 M1 N1 P1 Q1 R1 M2 N2 P2 Q2 R2 S2 T2 x) s K=iterS (f110_l1 (dOps (H:=H) prog) C n E0 I0) (fun i x s=>K (.exit i) (f110_l1_m E0 B0 D0 I0 N0 J0 Q0 M0 R0 P0 X0 U0 V0 W0 Z0 B1 A1 I1 E1 D1 S1 W1 X1 Y1 Z1 T1 U1 A2 B2 D2 E2 F2 G2 V1 I2 J2 J1 M1 N1 P1 Q1 R1 M2 N2 P2 Q2 R2 S2 T2 x) s) (fun x s=>K .ret (f110_l1_m E0 B0 D0 I0 N0 J0 Q0 M0 R0 P0 X0 U0 V0 W0 Z0 B1 A1 I1 E1 D1 S1 W1 X1 Y1 Z1 T1 U1 A2 B2 D2 E2 F2 G2 V1 I2 J2 J1 M1 N1 P1 Q1 R1 M2 N2 P2 Q2 R2 S2 T2 x) s) m x s :=
   iter_eq (f110_l1_m E0 B0 D0 I0 N0 J0 Q0 M0 R0 P0 X0 U0 V0 W0 Z0 B1 A1 I1 E1 D1 S1 W1 X1 Y1 Z1 T1 U1 A2 B2 D2 E2 F2 G2 V1 I2 J2 J1 M1 N1 P1 Q1 R1 M2 N2 P2 Q2 R2 S2 T2) (f110_l1 (dOps (H:=H) prog) C n E0 I0) (fun x s nx K=>f110_l1_b C n E0 B0 D0 I0 N0 J0 Q0 M0 R0 P0 X0 U0 V0 W0 Z0 B1 A1 I1 E1 D1 S1 W1 X1 Y1 Z1 T1 U1 A2 B2 D2 E2 F2 G2 V1 I2 J2 J1 M1 N1 P1 Q1 R1 M2 N2 P2 Q2 R2 S2 T2 x s nx K) K m x s
def f110_l0_m (E0 B0 N0 J0 Q0 M0 R0 P0 X0:Value) (x:Value×Value×Value×Value×Value):List Value:=[E0,undefV,B0,x.1,x.2.1,x.2.2.1,x.2.2.2.1,x.2.2.2.2,dc,N0,J0,Q0,M0,R0,P0,X0,dc,dc,dc,dc,dc,dc,dc,dc,dc,dc,dc,dc,dc,dc,dc,dc,dc,dc,dc,dc,dc,dc,dc,dc,dc,dc,dc,dc,dc,dc,dc,dc,dc,dc,dc,dc,dc,dc,dc,dc,dc,dc,dc,dc,dc,dc,dc,dc,dc,dc,dc,dc,dc,dc,dc,dc,dc,dc,dc,dc,dc,dc,dc,dc,dc,dc,dc,dc,dc,dc,dc,dc,dc,dc,dc,dc,dc,dc,dc,dc,undefV]
noncomputable def f110_l0 (O:Ops H) (C:OracleJ H) (n:Nat) (E0:Value) (nx:(Value×Value×Value×Value×Value)→St H→RsT H) (kx:Nat→(Value×Value×Value×Value×Value)→St H→RsT H) (kr:(Value×Value×Value×Value×Value)→St H→RsT H) (x:Value×Value×Value×Value×Value) (s:St H):RsT H :=
 (O.nilCheck E0).bind fun v9 =>
 (O.fieldAddr 93 v9 0).bind fun v10 =>
 (O.load s 91 v10).bind fun v11 =>
 (O.len s 91 v11).bind fun v12 =>
 (O.bop .lss 3 x.2.2.1 v12).bind fun v13 =>
 (O.boolO v13).bind fun b14=>cond b14 (
 (O.nilCheck E0).bind fun v15 =>
 (O.fieldAddr 93 v15 0).bind fun v16 =>
 (O.load s 91 v16).bind fun v17 =>
 (O.indexAddr 91 v17 x.2.2.1).bind fun v18 =>
 (O.fieldAddr 171 v18 0).bind fun v19 =>
 (O.load s 70 v19).bind fun v20 =>
 (O.bop .sub 70 v20 x.2.1).bind fun v21 =>
 (oneO C (.fn 157) [x.1,v21] s).bind fun p22 =>
 (O.nilCheck E0).bind fun v23 =>
 (O.fieldAddr 93 v23 0).bind fun v24 =>
 (O.load p22.2 91 v24).bind fun v25 =>
 (O.indexAddr 91 v25 x.2.2.1).bind fun v26 =>
 (O.fieldAddr 171 v26 1).bind fun v27 =>
 (O.load p22.2 80 v27).bind fun v28 =>
 (O.len p22.2 80 v28).bind fun v29 =>
 (O.conv false p22.2 3 70 v29).bind fun p30 =>
 (oneO C (.fn 157) [p22.1,p30.1] p30.2).bind fun p31 =>
 bif (eqO H ((O.conv false s 3 70 v29).map (·.1)) p30.1&&(eqO H ((O.conv false p22.2 3 70 v29).map (·.1)) p30.1&&(true)))&&((eqO H (O.len s 80 v28) v29&&(eqO H (O.len p22.2 80 v28) v29&&(true)))&&((eqO H (O.load s 80 v27) v28&&(eqO H (O.load p22.2 80 v27) v28&&(true)))&&((eqO H (O.load s 91 v24) v25&&(eqO H (O.load p22.2 91 v24) v25&&(true)))&&(true)))) then
 (O.nilCheck E0).bind fun v32 =>
 (O.fieldAddr 93 v32 0).bind fun v33 =>
 (O.load p31.2 91 v33).bind fun v34 =>
 (O.indexAddr 91 v34 x.2.2.1).bind fun v35 =>
 (O.fieldAddr 171 v35 0).bind fun v36 =>
 (O.load p31.2 70 v36).bind fun v37 =>
 iterS (f110_l1 O C n E0 x.2.2.1 )
 (fun G3 x73 s74=>(bif Nat.beq G3 2 then
 (O.bop .add 3 x.2.2.1 (.int .i64 1)).bind fun v79 =>
 nx (x73.1,v37,v79,x73.2.1,x73.2.2) s74 else (bif Nat.beq G3 1 then
 (O.bop .add 3 x.2.2.1 (.int .i64 1)).bind fun v78 =>
 nx (x73.1,v37,v78,x73.2.1,x73.2.2) s74 else kx G3 (x73.1,v37,x.2.2.1,x73.2.1,x73.2.2) s74)))
 (fun x75 s76=>kr (x75.1,v37,x.2.2.1,x75.2.1,x75.2.2) s76) n (p31.1,(Value.int IntKind.i64 0),(Value.int IntKind.i64 0)) p31.2
 else none) (
 kx 0 (x.1,x.2.1,x.2.2.1,x.2.2.2.1,x.2.2.2.2) s)
theorem f110_l1_k (nx:List Value→St H→RsT H) (K:Ex→List Value→St H→RsT H) (i:Nat) (x:Value×Value×Value) (s:St H):(kBlock 2 (kBlock 1 (kSeq prog false C n 110 none (cdp Try.f110 [1,1,1,0,1,0,0,1,1]) (kIter (scratch (cdp Try.f110 [1,1,1,0,1,0,0])) nx K)))) (.exit i) (f110_l1_m E0 B0 D0 I0 N0 J0 Q0 M0 R0 P0 X0 U0 V0 W0 Z0 B1 A1 I1 E1 D1 S1 W1 X1 Y1 Z1 T1 U1 A2 B2 D2 E2 F2 G2 V1 I2 J2 J1 M1 N1 P1 Q1 R1 M2 N2 P2 Q2 R2 S2 T2 x) s =
 (bif Nat.beq i 2 then
 ((dA H).bop .add 3 I0 (.int .i64 1)).bind fun v111 =>
 nx (f110_l0_m E0 B0 N0 J0 Q0 M0 R0 P0 X0 (x.1,D0,v111,x.2.1,x.2.2)) s else (bif Nat.beq i 1 then
 ((dA H).bop .add 3 I0 (.int .i64 1)).bind fun v112 =>
 nx (f110_l0_m E0 B0 N0 J0 Q0 M0 R0 P0 X0 (x.1,D0,v112,x.2.1,x.2.2)) s else K (.exit i) (f110_l0_m E0 B0 N0 J0 Q0 M0 R0 P0 X0 (x.1,D0,I0,x.2.1,x.2.2)) s)):=by kernel_rfl
theorem f110_l0_b (x:Value×Value×Value×Value×Value) (s:St H) (nx:List Value→St H→RsT H) (K:Ex→List Value→St H→RsT H) :
 exec prog false C n 110 none (cdp Try.f110 [1,1,1,0,1,0,0]) (f110_l0_m E0 B0 N0 J0 Q0 M0 R0 P0 X0 x) s (kIter (scratch (cdp Try.f110 [1,1,1,0,1,0,0])) nx K)=f110_l0 (dOps (H:=H) prog) C n E0 (fun x s=>nx (f110_l0_m E0 B0 N0 J0 Q0 M0 R0 P0 X0 x) s) (fun i x s=>K (.exit i) (f110_l0_m E0 B0 N0 J0 Q0 M0 R0 P0 X0 x) s) (fun x s=>K .ret (f110_l0_m E0 B0 N0 J0 Q0 M0 R0 P0 X0 x) s) x s:=by
  have h1:exec prog false C n 110 none (cdp Try.f110 [1,1,1,0,1,0,0]) (f110_l0_m E0 B0 N0 J0 Q0 M0 R0 P0 X0 x) s (kIter (scratch (cdp Try.f110 [1,1,1,0,1,0,0])) nx K) =
 ((dA H).nilCheck E0).bind fun v80 =>
 ((dA H).fieldAddr 93 v80 0).bind fun v81 =>
 ((dA H).load s 91 v81).bind fun v82 =>
 ((dA H).len s 91 v82).bind fun v83 =>
 ((dA H).bop .lss 3 x.2.2.1 v83).bind fun v84 =>
 ((dA H).boolO v84).bind fun b85=>cond b85 (
 ((dA H).nilCheck E0).bind fun v86 =>
 ((dA H).fieldAddr 93 v86 0).bind fun v87 =>
 ((dA H).load s 91 v87).bind fun v88 =>
 ((dA H).indexAddr 91 v88 x.2.2.1).bind fun v89 =>
 ((dA H).fieldAddr 171 v89 0).bind fun v90 =>
 ((dA H).load s 70 v90).bind fun v91 =>
 ((dA H).bop .sub 70 v91 x.2.1).bind fun v92 =>
 (oneO C (.fn 157) [x.1,v92] s).bind fun p93 =>
 ((dA H).nilCheck E0).bind fun v94 =>
 ((dA H).fieldAddr 93 v94 0).bind fun v95 =>
 ((dA H).load p93.2 91 v95).bind fun v96 =>
 ((dA H).indexAddr 91 v96 x.2.2.1).bind fun v97 =>
 ((dA H).fieldAddr 171 v97 1).bind fun v98 =>
 ((dA H).load p93.2 80 v98).bind fun v99 =>
 ((dA H).len p93.2 80 v99).bind fun v100 =>
 ((dA H).conv false p93.2 3 70 v100).bind fun p101 =>
 (oneO C (.fn 157) [p93.1,p101.1] p101.2).bind fun p102 =>
 bif (eqO H (((dA H).conv false s 3 70 v100).map (·.1)) p101.1&&(eqO H (((dA H).conv false p93.2 3 70 v100).map (·.1)) p101.1&&(true)))&&((eqO H ((dA H).len s 80 v99) v100&&(eqO H ((dA H).len p93.2 80 v99) v100&&(true)))&&((eqO H ((dA H).load s 80 v98) v99&&(eqO H ((dA H).load p93.2 80 v98) v99&&(true)))&&((eqO H ((dA H).load s 91 v95) v96&&(eqO H ((dA H).load p93.2 91 v95) v96&&(true)))&&(true)))) then
 ((dA H).nilCheck E0).bind fun v103 =>
 ((dA H).fieldAddr 93 v103 0).bind fun v104 =>
 ((dA H).load p102.2 91 v104).bind fun v105 =>
 ((dA H).indexAddr 91 v105 x.2.2.1).bind fun v106 =>
 ((dA H).fieldAddr 171 v106 0).bind fun v107 =>
 ((dA H).load p102.2 70 v107).bind fun v108 =>
 iter (fun t s k=>exec prog false C n 110 none (cdp Try.f110 [1,1,1,0,1,0,0,1,0,0,1,1,1,1,0,0]) t s k) (scratch (cdp Try.f110 [1,1,1,0,1,0,0,1,0,0,1,1,1,1,0,0])) n (f110_l1_m E0 B0 v108 x.2.2.1 N0 J0 Q0 M0 R0 P0 X0 x.2.2.1 E0 v80 v81 v82 v83 v84 x.1 E0 v86 v87 v88 x.2.2.1 v89 v90 v91 x.2.1 v92 p93.1 E0 v94 v95 v96 x.2.2.1 v97 v98 v99 v100 p101.1 p102.1 E0 v103 v104 v105 x.2.2.1 v106 v107 v108 (p102.1,(Value.int IntKind.i64 0),(Value.int IntKind.i64 0))) p102.2 (kBlock 2 (kBlock 1 (kSeq prog false C n 110 none (cdp Try.f110 [1,1,1,0,1,0,0,1,1]) (kIter (scratch (cdp Try.f110 [1,1,1,0,1,0,0])) nx K))))
 else none) (
 K (.exit 0) (f110_l0_m E0 B0 N0 J0 Q0 M0 R0 P0 X0 (x.1,x.2.1,x.2.2.1,x.2.2.2.1,x.2.2.2.2)) s):=by kernel_rfl
  rw [h1]
  simp only [f110_l1_e,f110_l1_k]
  show _=f110_l0 (dOps (H:=H) prog) C n E0 (fun x s=>nx (f110_l0_m E0 B0 N0 J0 Q0 M0 R0 P0 X0 x) s) (fun i x s=>K (.exit i) (f110_l0_m E0 B0 N0 J0 Q0 M0 R0 P0 X0 x) s) (fun x s=>K .ret (f110_l0_m E0 B0 N0 J0 Q0 M0 R0 P0 X0 x) s) x s
  kernel_rfl
theorem f110_l0_e (m:Nat) (x:Value×Value×Value×Value×Value) (s:St H) (K:Ex→List Value→St H→RsT H) :
 iter (fun t s k=>exec prog false C n 110 none (cdp Try.f110 [1,1,1,0,1,0,0]) t s k) (scratch (cdp Try.f110 [1,1,1,0,1,0,0])) m (f110_l0_m E0 B0 N0 J0 Q0 M0 R0 P0 X0 x) s K=iterS (f110_l0 (dOps (H:=H) prog) C n E0) (fun i x s=>K (.exit i) (f110_l0_m E0 B0 N0 J0 Q0 M0 R0 P0 X0 x) s) (fun x s=>K .ret (f110_l0_m E0 B0 N0 J0 Q0 M0 R0 P0 X0 x) s) m x s :=
   iter_eq (f110_l0_m E0 B0 N0 J0 Q0 M0 R0 P0 X0) (f110_l0 (dOps (H:=H) prog) C n E0) (fun x s nx K=>f110_l0_b C n E0 B0 N0 J0 Q0 M0 R0 P0 X0 x s nx K) K m x s
noncomputable def f110 (O:Ops H) (C:OracleJ H) (n:Nat) (a0:Value) (s:St H):RsT H :=
 (O.nilCheck a0).bind fun v1 =>
 (O.fieldAddr 93 v1 0).bind fun v2 =>
 (O.load s 91 v2).bind fun v3 =>
 (O.len s 91 v3).bind fun v4 =>
 (O.conv false s 3 70 v4).bind fun p5 =>
 (C (.fn 157) [(fzV 2 #[]),p5.1] p5.2).bind fun L6=>manyK L6 fun v7 s8 =>
 iterS (f110_l0 O C n a0 )
 (fun J3 x114 s115=>(bif Nat.beq J3 0 then
 some [(x114.1,s115)] else none))
 (fun x116 s117=>some [((fzV 2 #[]),s117)]) n (v7,(Value.int IntKind.u64 0),(Value.int IntKind.i64 0),undefV,undefV) s8
theorem f110_l0_k (i:Nat) (x:Value×Value×Value×Value×Value) (s:St H):(kBlock 0 (kSeq prog false C n 110 none (cdp Try.f110 [1,1,1,1]) (kFun prog Try.f110))) (.exit i) (f110_l0_m E0 B0 N0 J0 Q0 M0 R0 P0 X0 x) s =
 (bif Nat.beq i 0 then
 some [(x.1,s)] else none):=by kernel_rfl
theorem f110_r (C:OracleJ H) (n:Nat) (a0:Value) (s:St H):bodyD prog false C n 110 Try.f110 [a0] s=f110 (dOps (H:=H) prog) C n a0 s:=by
  have h1:bodyD prog false C n 110 Try.f110 [a0] s =
 ((dA H).nilCheck a0).bind fun v118 =>
 ((dA H).fieldAddr 93 v118 0).bind fun v119 =>
 ((dA H).load s 91 v119).bind fun v120 =>
 ((dA H).len s 91 v120).bind fun v121 =>
 ((dA H).conv false s 3 70 v121).bind fun p122 =>
 (C (.fn 157) [(fzV 2 #[]),p122.1] p122.2).bind fun L123=>manyK L123 fun v124 s125 =>
 iter (fun t s k=>exec prog false C n 110 none (cdp Try.f110 [1,1,1,0,1,0,0]) t s k) (scratch (cdp Try.f110 [1,1,1,0,1,0,0])) n (f110_l0_m a0 (fzV 2 #[]) a0 v118 v119 v120 v121 p122.1 v124 (v124,(Value.int IntKind.u64 0),(Value.int IntKind.i64 0),undefV,undefV)) s125 (kBlock 0 (kSeq prog false C n 110 none (cdp Try.f110 [1,1,1,1]) (kFun prog Try.f110))):=by kernel_rfl
  rw [h1]
  simp only [f110_l0_e,f110_l0_k]
  show _=f110 (dOps (H:=H) prog) C n a0 s
  kernel_rfl
def f123_l0_m (E0 A0 B0 F0 N0 J0 Q0 M0 R0 P0 X0 U0 V0:Value) (x:Value×Value):List Value:=[E0,A0,B0,undefV,undefV,undefV,F0,x.1,x.2,N0,J0,Q0,M0,R0,P0,X0,U0,V0,dc,dc,dc,dc,dc,dc,dc,dc,dc,dc,undefV,undefV,undefV,undefV,undefV]
noncomputable def f123_l0 (O:Ops H) (C:OracleJ H) (n:Nat) (nx:(Value×Value)→St H→RsT H) (kx:Nat→(Value×Value)→St H→RsT H) (kr:(Value×Value)→St H→RsT H) (x:Value×Value) (s:St H):RsT H :=
 (O.bop .gtr 70 x.2 (.int .u64 127)).bind fun v9 =>
 (O.boolO v9).bind fun b10=>cond b10 (
 (O.conv false s 70 5 x.2).bind fun p11 =>
 (O.bop .or 5 p11.1 (.int .u8 128)).bind fun v12 =>
 (O.buildSlice false p11.2 35 1 [(0,v12)]).bind fun p13 =>
 (O.append false p13.2 35 35 x.1 p13.1).bind fun p14 =>
 (O.bop .shr 70 x.2 (.int .u64 7)).bind fun v15 =>
 nx (p14.1,v15) p14.2) (
 kx 0 (x.1,x.2) s)
theorem f123_l0_b (x:Value×Value) (s:St H) (nx:List Value→St H→RsT H) (K:Ex→List Value→St H→RsT H) :
 exec prog false C n 123 none (cdp Try.f123 [1,1,1,0,0,0]) (f123_l0_m E0 A0 B0 F0 N0 J0 Q0 M0 R0 P0 X0 U0 V0 x) s (kIter (scratch (cdp Try.f123 [1,1,1,0,0,0])) nx K)=f123_l0 (dOps (H:=H) prog) C n (fun x s=>nx (f123_l0_m E0 A0 B0 F0 N0 J0 Q0 M0 R0 P0 X0 U0 V0 x) s) (fun i x s=>K (.exit i) (f123_l0_m E0 A0 B0 F0 N0 J0 Q0 M0 R0 P0 X0 U0 V0 x) s) (fun x s=>K .ret (f123_l0_m E0 A0 B0 F0 N0 J0 Q0 M0 R0 P0 X0 U0 V0 x) s) x s:=by kernel_rfl
theorem f123_l0_e (m:Nat) (x:Value×Value) (s:St H) (K:Ex→List Value→St H→RsT H) :
 iter (fun t s k=>exec prog false C n 123 none (cdp Try.f123 [1,1,1,0,0,0]) t s k) (scratch (cdp Try.f123 [1,1,1,0,0,0])) m (f123_l0_m E0 A0 B0 F0 N0 J0 Q0 M0 R0 P0 X0 U0 V0 x) s K=iterS (f123_l0 (dOps (H:=H) prog) C n) (fun i x s=>K (.exit i) (f123_l0_m E0 A0 B0 F0 N0 J0 Q0 M0 R0 P0 X0 U0 V0 x) s) (fun x s=>K .ret (f123_l0_m E0 A0 B0 F0 N0 J0 Q0 M0 R0 P0 X0 U0 V0 x) s) m x s :=
   iter_eq (f123_l0_m E0 A0 B0 F0 N0 J0 Q0 M0 R0 P0 X0 U0 V0) (f123_l0 (dOps (H:=H) prog) C n) (fun x s nx K=>f123_l0_b C n E0 A0 B0 F0 N0 J0 Q0 M0 R0 P0 X0 U0 V0 x s nx K) K m x s
noncomputable def f123 (O:Ops H) (C:OracleJ H) (n:Nat) (a0 a1 a2:Value) (s:St H):RsT H :=
 (O.len s 35 a0).bind fun v1 =>
 (O.bop .add 3 v1 (.int .i64 10)).bind fun v2 =>
 (O.makeSlice false s 35 (Value.int IntKind.i64 0) v2).bind fun p3 =>
 (O.append false p3.2 35 35 p3.1 a0).bind fun p4 =>
 (O.tgt a2 [a1]).bind fun g5=>(C g5.1 g5.2 p4.2).bind fun L6=>manyK L6 fun v7 s8 =>
 iterS (f123_l0 O C n )
 (fun U0 x17 s18=>(bif Nat.beq U0 0 then
 (O.conv false s18 70 5 x17.2).bind fun p21 =>
 (O.buildSlice false p21.2 35 1 [(0,p21.1)]).bind fun p22 =>
 (O.append false p22.2 35 35 x17.1 p22.1).bind fun p23 =>
 some [(p23.1,p23.2)] else none))
 (fun x19 s20=>some [((fzV 2 #[]),s20)]) n (p4.1,v7) s8
theorem f123_l0_k (i:Nat) (x:Value×Value) (s:St H):(kBlock 0 (kSeq prog false C n 123 none (cdp Try.f123 [1,1,1,1]) (kFun prog Try.f123))) (.exit i) (f123_l0_m E0 A0 B0 F0 N0 J0 Q0 M0 R0 P0 X0 U0 V0 x) s =
 (bif Nat.beq i 0 then
 ((dA H).conv false s 70 5 x.2).bind fun p35 =>
 ((dA H).buildSlice false p35.2 35 1 [(0,p35.1)]).bind fun p36 =>
 ((dA H).append false p36.2 35 35 x.1 p36.1).bind fun p37 =>
 some [(p37.1,p37.2)] else none):=by kernel_rfl
theorem f123_r (C:OracleJ H) (n:Nat) (a0 a1 a2:Value) (s:St H):bodyD prog false C n 123 Try.f123 [a0,a1,a2] s=f123 (dOps (H:=H) prog) C n a0 a1 a2 s:=by
  have h1:bodyD prog false C n 123 Try.f123 [a0,a1,a2] s =
 ((dA H).len s 35 a0).bind fun v24 =>
 ((dA H).bop .add 3 v24 (.int .i64 10)).bind fun v25 =>
 ((dA H).makeSlice false s 35 (Value.int IntKind.i64 0) v25).bind fun p26 =>
 ((dA H).append false p26.2 35 35 p26.1 a0).bind fun p27 =>
 ((dA H).tgt a2 [a1]).bind fun g28=>(C g28.1 g28.2 p27.2).bind fun L29=>manyK L29 fun v30 s31 =>
 iter (fun t s k=>exec prog false C n 123 none (cdp Try.f123 [1,1,1,0,0,0]) t s k) (scratch (cdp Try.f123 [1,1,1,0,0,0])) n (f123_l0_m a0 a1 a2 (fzV 2 #[]) a0 v24 v25 p26.1 a0 p27.1 a2 a1 v30 (p27.1,v30)) s31 (kBlock 0 (kSeq prog false C n 123 none (cdp Try.f123 [1,1,1,1]) (kFun prog Try.f123))):=by kernel_rfl
  rw [h1]
  simp only [f123_l0_e,f123_l0_k]
  show _=f123 (dOps (H:=H) prog) C n a0 a1 a2 s
  kernel_rfl
noncomputable def f124 (O:Ops H) (C:OracleJ H) (n:Nat) (a0:Value) (s:St H):RsT H :=
 some [(a0,s)]
theorem f124_r (C:OracleJ H) (n:Nat) (a0:Value) (s:St H):bodyD prog false C n 124 Try.f124 [a0] s=f124 (dOps (H:=H) prog) C n a0 s:=by kernel_rfl
def f153_l0_m (E0 A0 B0 F0 S0 T0 N0 J0 Q0 M0 R0 P0 X0:Value) (x:Value):List Value:=[E0,A0,B0,undefV,undefV,dc,F0,S0,T0,N0,J0,Q0,M0,R0,P0,X0,x,dc,dc,dc,dc,dc,dc,dc,dc,dc,dc,dc,dc]
noncomputable def f153_l0 (O:Ops H) (C:OracleJ H) (n:Nat) (E0 P0 X0:Value) (nx:Value→St H→RsT H) (kx:Nat→Value→St H→RsT H) (kr:Value→St H→RsT H) (x:Value) (s:St H):RsT H :=
 (O.bop .lss 3 x X0).bind fun v14 =>
 (O.boolO v14).bind fun b15=>cond b15 (
 (O.indexAddr 160 P0 x).bind fun v16 =>
 (O.load s 163 v16).bind fun v17 =>
 (O.alloc s 163).bind fun p18 =>
 (O.store p18.2 163 p18.1 v17).bind fun s19 =>
 (O.fieldAddr 163 p18.1 0).bind fun v20 =>
 (O.load s19 3 v20).bind fun v21 =>
 (O.fieldAddr 163 p18.1 1).bind fun v22 =>
 (O.load s19 3 v22).bind fun v23 =>
 (O.build 69 [(0,v21),(1,v23)]).bind fun v24 =>
 (O.tgt E0 [v24]).bind fun g25=>(C g25.1 g25.2 s19).bind fun L26=>manyK L26 fun v27 s28 =>
 (O.uop .not v27).bind fun v29 =>
 (O.boolO v29).bind fun b30=>cond b30 (
 kr x s28) (
 (O.bop .add 3 x (.int .i64 1)).bind fun v31 =>
 nx v31 s28)) (
 kx 0 x s)
theorem f153_l0_b (x:Value) (s:St H) (nx:List Value→St H→RsT H) (K:Ex→List Value→St H→RsT H) :
 exec prog false C n 153 none (cdp Try.f153 [1,1,0,0]) (f153_l0_m E0 A0 B0 F0 S0 T0 N0 J0 Q0 M0 R0 P0 X0 x) s (kIter (scratch (cdp Try.f153 [1,1,0,0])) nx K)=f153_l0 (dOps (H:=H) prog) C n E0 P0 X0 (fun x s=>nx (f153_l0_m E0 A0 B0 F0 S0 T0 N0 J0 Q0 M0 R0 P0 X0 x) s) (fun i x s=>K (.exit i) (f153_l0_m E0 A0 B0 F0 S0 T0 N0 J0 Q0 M0 R0 P0 X0 x) s) (fun x s=>K .ret (f153_l0_m E0 A0 B0 F0 S0 T0 N0 J0 Q0 M0 R0 P0 X0 x) s) x s:=by kernel_rfl
theorem f153_l0_e (m:Nat) (x:Value) (s:St H) (K:Ex→List Value→St H→RsT H) :
 iter (fun t s k=>exec prog false C n 153 none (cdp Try.f153 [1,1,0,0]) t s k) (scratch (cdp Try.f153 [1,1,0,0])) m (f153_l0_m E0 A0 B0 F0 S0 T0 N0 J0 Q0 M0 R0 P0 X0 x) s K=iterS (f153_l0 (dOps (H:=H) prog) C n E0 P0 X0) (fun i x s=>K (.exit i) (f153_l0_m E0 A0 B0 F0 S0 T0 N0 J0 Q0 M0 R0 P0 X0 x) s) (fun x s=>K .ret (f153_l0_m E0 A0 B0 F0 S0 T0 N0 J0 Q0 M0 R0 P0 X0 x) s) m x s :=
   iter_eq (f153_l0_m E0 A0 B0 F0 S0 T0 N0 J0 Q0 M0 R0 P0 X0) (f153_l0 (dOps (H:=H) prog) C n E0 P0 X0) (fun x s nx K=>f153_l0_b C n E0 A0 B0 F0 S0 T0 N0 J0 Q0 M0 R0 P0 X0 x s nx K) K m x s
noncomputable def f153 (O:Ops H) (C:OracleJ H) (n:Nat) (a0 a1 a2:Value) (s:St H):RsT H :=
 (O.load s 81 a1).bind fun v1 =>
 (C (.fn 101) [v1] s).bind fun L2=>manyK L2 fun v3 s4 =>
 (O.uop .not v3).bind fun v5 =>
 (O.boolO v5).bind fun b6=>cond b6 (
 some [(.tuple #[],s4)]) (
 (O.load s4 81 a1).bind fun v7 =>
 (O.nilCheck v7).bind fun v8 =>
 (O.fieldAddr 158 v8 0).bind fun v9 =>
 (O.load s4 156 v9).bind fun v10 =>
 (O.load s4 70 a2).bind fun v11 =>
 (O.lookup s4 156 v10 v11 false).bind fun v12 =>
 (O.len s4 160 v12).bind fun v13 =>
 iterS (f153_l0 O C n a0 v12 v13 )
 (fun T1 x33 s34=>(bif Nat.beq T1 0 then
 some [(.tuple #[],s34)] else none))
 (fun x35 s36=>some [(.tuple #[],s36)]) n (Value.int IntKind.i64 0) s4)
theorem f153_l0_k (C:OracleJ H) (n:Nat) (E0 A0 B0 F0 S0 T0 N0 J0 Q0 M0 R0 P0 X0:Value) (i:Nat) (x:Value) (s:St H):(kBlock 0 (kFun prog Try.f153)) (.exit i) (f153_l0_m E0 A0 B0 F0 S0 T0 N0 J0 Q0 M0 R0 P0 X0 x) s =
 (bif Nat.beq i 0 then
 some [(.tuple #[],s)] else none):=by kernel_rfl
theorem f153_r (C:OracleJ H) (n:Nat) (a0 a1 a2:Value) (s:St H):bodyD prog false C n 153 Try.f153 [a0,a1,a2] s=f153 (dOps (H:=H) prog) C n a0 a1 a2 s:=by
  have h1:bodyD prog false C n 153 Try.f153 [a0,a1,a2] s =
 ((dA H).load s 81 a1).bind fun v37 =>
 (C (.fn 101) [v37] s).bind fun L38=>manyK L38 fun v39 s40 =>
 ((dA H).uop .not v39).bind fun v41 =>
 ((dA H).boolO v41).bind fun b42=>cond b42 (
 some [(.tuple #[],s40)]) (
 ((dA H).load s40 81 a1).bind fun v43 =>
 ((dA H).nilCheck v43).bind fun v44 =>
 ((dA H).fieldAddr 158 v44 0).bind fun v45 =>
 ((dA H).load s40 156 v45).bind fun v46 =>
 ((dA H).load s40 70 a2).bind fun v47 =>
 ((dA H).lookup s40 156 v46 v47 false).bind fun v48 =>
 ((dA H).len s40 160 v48).bind fun v49 =>
 iter (fun t s k=>exec prog false C n 153 none (cdp Try.f153 [1,1,0,0]) t s k) (scratch (cdp Try.f153 [1,1,0,0])) n (f153_l0_m a0 a1 a2 v37 v39 v41 v43 v44 v45 v46 v47 v48 v49 (Value.int IntKind.i64 0)) s40 (kBlock 0 (kFun prog Try.f153))):=by kernel_rfl
  rw [h1]
  simp only [f153_l0_e,f153_l0_k]
  show _=f153 (dOps (H:=H) prog) C n a0 a1 a2 s
  kernel_rfl
noncomputable def f154 (O:Ops H) (C:OracleJ H) (n:Nat) (a0 a1:Value) (s:St H):RsT H :=
 (O.box s a0).bind fun p1 =>
 rngO prog O C 154 a1 [a0,a1,p1.1,undefV,(fzV 2 #[]),undefV,a1,undefV,undefV,undefV,undefV,undefV,undefV] [7] (cdp Try.f154 [1,0,1,0,0]) (cdp Try.f154 [1,0,1,0,1]) p1.2
 (fun s2=>(O.load s2 80 p1.1).bind fun v7 =>
 some [(v7,s2)])
 (fun s3=>some [((fzV 2 #[]),s3)])
 (fun I0 s4=>(bif Nat.beq I0 0 then
 (O.load s4 80 p1.1).bind fun v8 =>
 some [(v8,s4)] else none))
theorem f154_r (C:OracleJ H) (n:Nat) (a0 a1:Value) (s:St H):bodyD prog false C n 154 Try.f154 [a0,a1] s=f154 (dOps (H:=H) prog) C n a0 a1 s:=by kernel_rfl
noncomputable def f154_r0 (O:Ops H) (C:OracleJ H) (n:Nat) (l:Nat) (B0:Value) (x0:Value) (s:St H):RsT H :=
 (O.alloc s 69).bind fun p9 =>
 (O.store p9.2 69 p9.1 x0).bind fun s10 =>
 (beginD s10 l).bind fun s11 =>
 (O.load s11 80 B0).bind fun v12 =>
 (O.load s11 69 p9.1).bind fun v13 =>
 (O.buildSlice false s11 80 1 [(0,v13)]).bind fun p14 =>
 (O.append false p14.2 80 80 v12 p14.1).bind fun p15 =>
 (O.store p15.2 80 B0 p15.1).bind fun s16 =>
 (setLoopD s16 l 0 none).map fun s=>[((.bool true),s)]
theorem f154_r0_x (C:OracleJ H) (n:Nat) (l:Nat) (E0 A0 B0 G0 D0 I0 F0 S0 T0 N0 J0 Q0 M0:Value) (x0:Value) (s:St H):exec prog false C n 154 (some l) (cdp Try.f154 [1,0,1,0,0]) [E0,A0,B0,G0,D0,I0,F0,x0,T0,N0,J0,Q0,M0] s (kAsg prog false C n 154 l (cdp Try.f154 [1,0,1,0,1]))=f154_r0 (dOps (H:=H) prog) C n l B0 x0 s:=by kernel_rfl
theorem f154_r0_e {C:OracleJ H} {rw:FuncId→Bool} {n l:Nat} {pe:Option Code} {E0 A0 B0 G0 D0 I0 F0 S0 T0 N0 J0 Q0 M0:Value} {s:St H} (hrw:rw 154=false) (h:loopD s l=some (0,pe,154,[E0,A0,B0,G0,D0,I0,F0,S0,T0,N0,J0,Q0,M0],[7],cdp Try.f154 [1,0,1,0,0],cdp Try.f154 [1,0,1,0,1])) (x0:Value):roundD prog rw C n l [x0] s=f154_r0 (dOps (H:=H) prog) C n l B0 x0 s:=by (unfold roundD; rw [h,bindS,hrw]; exact f154_r0_x C n l E0 A0 B0 G0 D0 I0 F0 S0 T0 N0 J0 Q0 M0 x0 s)
noncomputable def f155 (O:Ops H) (C:OracleJ H) (n:Nat) (a0:Value) (s:St H):RsT H :=
 (C (.fn 196) [a0] s).bind fun L1=>manyK L1 fun v2 s3 =>
 (C (.fn 197) [v2] s3).bind fun L4=>manyK L4 fun v5 s6 =>
 some [(v2,s6)]
theorem f155_r (C:OracleJ H) (n:Nat) (a0:Value) (s:St H):bodyD prog false C n 155 Try.f155 [a0] s=f155 (dOps (H:=H) prog) C n a0 s:=by kernel_rfl
noncomputable def f156 (O:Ops H) (C:OracleJ H) (n:Nat) (a0:Value) (s:St H):RsT H :=
 (O.box s a0).bind fun p1 =>
 some [((.func (.func 198) #[] #[p1.1]),p1.2)]
theorem f156_r (C:OracleJ H) (n:Nat) (a0:Value) (s:St H):bodyD prog false C n 156 Try.f156 [a0] s=f156 (dOps (H:=H) prog) C n a0 s:=by kernel_rfl
def f157_l0_m (E0 D0 F0 S0 T0:Value) (x:Value×Value):List Value:=[E0,x.1,undefV,undefV,D0,x.2,F0,S0,T0,dc,dc,dc,dc,dc,dc,dc,dc,dc,dc,dc,undefV,undefV,undefV,undefV,undefV]
noncomputable def f157_l0 (O:Ops H) (C:OracleJ H) (n:Nat) (nx:(Value×Value)→St H→RsT H) (kx:Nat→(Value×Value)→St H→RsT H) (kr:(Value×Value)→St H→RsT H) (x:Value×Value) (s:St H):RsT H :=
 (O.bop .geq 70 x.1 (.int .u64 128)).bind fun v3 =>
 (O.boolO v3).bind fun b4=>cond b4 (
 (O.bop .rem 70 x.1 (.int .u64 128)).bind fun v5 =>
 (O.bop .add 70 (.int .u64 128) v5).bind fun v6 =>
 (O.conv false s 70 5 v6).bind fun p7 =>
 (O.buildSlice false p7.2 35 1 [(0,p7.1)]).bind fun p8 =>
 (O.append false p8.2 35 35 x.2 p8.1).bind fun p9 =>
 (O.bop .quo 70 x.1 (.int .u64 128)).bind fun v10 =>
 nx (v10,p9.1) p9.2) (
 kx 0 (x.1,x.2) s)
theorem f157_l0_b (x:Value×Value) (s:St H) (nx:List Value→St H→RsT H) (K:Ex→List Value→St H→RsT H) :
 exec prog false C n 157 none (cdp Try.f157 [1,1,0,0,0]) (f157_l0_m E0 D0 F0 S0 T0 x) s (kIter (scratch (cdp Try.f157 [1,1,0,0,0])) nx K)=f157_l0 (dOps (H:=H) prog) C n (fun x s=>nx (f157_l0_m E0 D0 F0 S0 T0 x) s) (fun i x s=>K (.exit i) (f157_l0_m E0 D0 F0 S0 T0 x) s) (fun x s=>K .ret (f157_l0_m E0 D0 F0 S0 T0 x) s) x s:=by kernel_rfl
theorem f157_l0_e (m:Nat) (x:Value×Value) (s:St H) (K:Ex→List Value→St H→RsT H) :
 iter (fun t s k=>exec prog false C n 157 none (cdp Try.f157 [1,1,0,0,0]) t s k) (scratch (cdp Try.f157 [1,1,0,0,0])) m (f157_l0_m E0 D0 F0 S0 T0 x) s K=iterS (f157_l0 (dOps (H:=H) prog) C n) (fun i x s=>K (.exit i) (f157_l0_m E0 D0 F0 S0 T0 x) s) (fun x s=>K .ret (f157_l0_m E0 D0 F0 S0 T0 x) s) m x s :=
   iter_eq (f157_l0_m E0 D0 F0 S0 T0) (f157_l0 (dOps (H:=H) prog) C n) (fun x s nx K=>f157_l0_b C n E0 D0 F0 S0 T0 x s nx K) K m x s
noncomputable def f157 (O:Ops H) (C:OracleJ H) (n:Nat) (a0 a1:Value) (s:St H):RsT H :=
 (O.buildSlice false s 35 0 []).bind fun p1 =>
 (O.append false p1.2 35 35 p1.1 a0).bind fun p2 =>
 iterS (f157_l0 O C n )
 (fun Q0 x12 s13=>(bif Nat.beq Q0 0 then
 (O.conv false s13 70 5 x12.1).bind fun p16 =>
 (O.buildSlice false p16.2 35 1 [(0,p16.1)]).bind fun p17 =>
 (O.append false p17.2 35 35 x12.2 p17.1).bind fun p18 =>
 some [(p18.1,p18.2)] else none))
 (fun x14 s15=>some [((fzV 2 #[]),s15)]) n (a1,p2.1) p2.2
theorem f157_l0_k (i:Nat) (x:Value×Value) (s:St H):(kBlock 0 (kSeq prog false C n 157 none (cdp Try.f157 [1,1,1]) (kFun prog Try.f157))) (.exit i) (f157_l0_m E0 D0 F0 S0 T0 x) s =
 (bif Nat.beq i 0 then
 ((dA H).conv false s 70 5 x.1).bind fun p24 =>
 ((dA H).buildSlice false p24.2 35 1 [(0,p24.1)]).bind fun p25 =>
 ((dA H).append false p25.2 35 35 x.2 p25.1).bind fun p26 =>
 some [(p26.1,p26.2)] else none):=by kernel_rfl
theorem f157_r (C:OracleJ H) (n:Nat) (a0 a1:Value) (s:St H):bodyD prog false C n 157 Try.f157 [a0,a1] s=f157 (dOps (H:=H) prog) C n a0 a1 s:=by
  have h1:bodyD prog false C n 157 Try.f157 [a0,a1] s =
 ((dA H).buildSlice false s 35 0 []).bind fun p19 =>
 ((dA H).append false p19.2 35 35 p19.1 a0).bind fun p20 =>
 iter (fun t s k=>exec prog false C n 157 none (cdp Try.f157 [1,1,0,0,0]) t s k) (scratch (cdp Try.f157 [1,1,0,0,0])) n (f157_l0_m a0 (fzV 2 #[]) p19.1 a0 p20.1 (a1,p20.1)) p20.2 (kBlock 0 (kSeq prog false C n 157 none (cdp Try.f157 [1,1,1]) (kFun prog Try.f157))):=by kernel_rfl
  rw [h1]
  simp only [f157_l0_e,f157_l0_k]
  show _=f157 (dOps (H:=H) prog) C n a0 a1 s
  kernel_rfl
noncomputable def f196 (O:Ops H) (C:OracleJ H) (n:Nat) (a0:Value) (s:St H):RsT H :=
 (C (.fn 210) [(fzV 2 #[]),a0] s).bind fun L1=>manyK L1 fun v2 s3 =>
 some [(v2,s3)]
theorem f196_r (C:OracleJ H) (n:Nat) (a0:Value) (s:St H):bodyD prog false C n 196 Try.f196 [a0] s=f196 (dOps (H:=H) prog) C n a0 s:=by kernel_rfl
noncomputable def f197 (O:Ops H) (C:OracleJ H) (n:Nat) (a0:Value) (s:St H):RsT H :=
 (O.len s 67 a0).bind fun v1 =>
 (O.conv false s 3 201 v1).bind fun p2 =>
 (C (.fn 132) [p2.1] p2.2).bind fun L3=>manyK L3 fun v4 s5 =>
 (C (.fn 211) [a0,(Value.int IntKind.i64 0),v1,v4] s5).bind fun L6=>manyK L6 fun v7 s8 =>
 some [(.tuple #[],s8)]
theorem f197_r (C:OracleJ H) (n:Nat) (a0:Value) (s:St H):bodyD prog false C n 197 Try.f197 [a0] s=f197 (dOps (H:=H) prog) C n a0 s:=by kernel_rfl
def f198_l0_m (E0 A0 D0 I0:Value) (x:Value):List Value:=[E0,A0,undefV,x,D0,I0,dc,dc,dc,dc,dc,dc,dc,dc]
noncomputable def f198_l0 (O:Ops H) (C:OracleJ H) (n:Nat) (E0 I0:Value) (nx:Value→St H→RsT H) (kx:Nat→Value→St H→RsT H) (kr:Value→St H→RsT H) (x:Value) (s:St H):RsT H :=
 (O.nexts s I0).bind fun L3=>manyK L3 fun v4 s5 =>
 (O.extract v4 0).bind fun v6 =>
 (O.boolO v6).bind fun b7=>cond b7 (
 (O.entry s5 I0).bind fun v8 =>
 (O.extract v8 0).bind fun v9 =>
 (O.tgt E0 [v9]).bind fun g10=>(C g10.1 g10.2 s5).bind fun L11=>manyK L11 fun v12 s13 =>
 (O.uop .not v12).bind fun v14 =>
 (O.boolO v14).bind fun b15=>cond b15 (
 kr v9 s13) (
 nx v9 s13)) (
 kx 0 x s5)
theorem f198_l0_b (x:Value) (s:St H) (nx:List Value→St H→RsT H) (K:Ex→List Value→St H→RsT H) :
 exec prog false C n 198 none (cdp Try.f198 [1,0,0]) (f198_l0_m E0 A0 D0 I0 x) s (kIter (scratch (cdp Try.f198 [1,0,0])) nx K)=f198_l0 (dOps (H:=H) prog) C n E0 I0 (fun x s=>nx (f198_l0_m E0 A0 D0 I0 x) s) (fun i x s=>K (.exit i) (f198_l0_m E0 A0 D0 I0 x) s) (fun x s=>K .ret (f198_l0_m E0 A0 D0 I0 x) s) x s:=by kernel_rfl
theorem f198_l0_e (m:Nat) (x:Value) (s:St H) (K:Ex→List Value→St H→RsT H) :
 iter (fun t s k=>exec prog false C n 198 none (cdp Try.f198 [1,0,0]) t s k) (scratch (cdp Try.f198 [1,0,0])) m (f198_l0_m E0 A0 D0 I0 x) s K=iterS (f198_l0 (dOps (H:=H) prog) C n E0 I0) (fun i x s=>K (.exit i) (f198_l0_m E0 A0 D0 I0 x) s) (fun x s=>K .ret (f198_l0_m E0 A0 D0 I0 x) s) m x s :=
   iter_eq (f198_l0_m E0 A0 D0 I0) (f198_l0 (dOps (H:=H) prog) C n E0 I0) (fun x s nx K=>f198_l0_b C n E0 A0 D0 I0 x s nx K) K m x s
noncomputable def f198 (O:Ops H) (C:OracleJ H) (n:Nat) (a0 a1:Value) (s:St H):RsT H :=
 (O.load s 156 a1).bind fun v1 =>
 (O.range s 156 v1).bind fun p2 =>
 iterS (f198_l0 O C n a0 p2.1 )
 (fun U0 x17 s18=>(bif Nat.beq U0 0 then
 some [(.tuple #[],s18)] else none))
 (fun x19 s20=>some [(.tuple #[],s20)]) n undefV p2.2
theorem f198_l0_k (C:OracleJ H) (n:Nat) (E0 A0 D0 I0:Value) (i:Nat) (x:Value) (s:St H):(kBlock 0 (kFun prog Try.f198)) (.exit i) (f198_l0_m E0 A0 D0 I0 x) s =
 (bif Nat.beq i 0 then
 some [(.tuple #[],s)] else none):=by kernel_rfl
theorem f198_r (C:OracleJ H) (n:Nat) (a0 a1:Value) (s:St H):bodyD prog false C n 198 Try.f198 [a0,a1] s=f198 (dOps (H:=H) prog) C n a0 a1 s:=by
  have h1:bodyD prog false C n 198 Try.f198 [a0,a1] s =
 ((dA H).load s 156 a1).bind fun v21 =>
 ((dA H).range s 156 v21).bind fun p22 =>
 iter (fun t s k=>exec prog false C n 198 none (cdp Try.f198 [1,0,0]) t s k) (scratch (cdp Try.f198 [1,0,0])) n (f198_l0_m a0 a1 v21 p22.1 undefV) p22.2 (kBlock 0 (kFun prog Try.f198)):=by kernel_rfl
  rw [h1]
  simp only [f198_l0_e,f198_l0_k]
  show _=f198 (dOps (H:=H) prog) C n a0 a1 s
  kernel_rfl
noncomputable def f210 (O:Ops H) (C:OracleJ H) (n:Nat) (a0 a1:Value) (s:St H):RsT H :=
 (O.box s a0).bind fun p1 =>
 rngO prog O C 210 a1 [a0,a1,p1.1,undefV,(fzV 2 #[]),undefV,a1,undefV,undefV,undefV,undefV,undefV,undefV] [7] (cdp Try.f210 [1,0,1,0,0]) (cdp Try.f210 [1,0,1,0,1]) p1.2
 (fun s2=>(O.load s2 67 p1.1).bind fun v7 =>
 some [(v7,s2)])
 (fun s3=>some [((fzV 2 #[]),s3)])
 (fun I0 s4=>(bif Nat.beq I0 0 then
 (O.load s4 67 p1.1).bind fun v8 =>
 some [(v8,s4)] else none))
theorem f210_r (C:OracleJ H) (n:Nat) (a0 a1:Value) (s:St H):bodyD prog true C n 210 Try.f210 [a0,a1] s=f210 (dOps (H:=H) prog) C n a0 a1 s:=by kernel_rfl
noncomputable def f210_r0 (O:Ops H) (C:OracleJ H) (n:Nat) (l:Nat) (B0:Value) (x0:Value) (s:St H):RsT H :=
 (beginD s l).bind fun s9 =>
 (O.load s9 67 B0).bind fun v10 =>
 (O.buildSlice true s9 67 1 [(0,x0)]).bind fun p11 =>
 (O.append true p11.2 67 67 v10 p11.1).bind fun p12 =>
 (O.store p12.2 67 B0 p12.1).bind fun s13 =>
 (setLoopD s13 l 0 none).map fun s=>[((.bool true),s)]
theorem f210_r0_x (C:OracleJ H) (n:Nat) (l:Nat) (E0 A0 B0 G0 D0 I0 F0 S0 T0 N0 J0 Q0 M0:Value) (x0:Value) (s:St H):exec prog true C n 210 (some l) (cdp Try.f210 [1,0,1,0,0]) [E0,A0,B0,G0,D0,I0,F0,x0,T0,N0,J0,Q0,M0] s (kAsg prog true C n 210 l (cdp Try.f210 [1,0,1,0,1]))=f210_r0 (dOps (H:=H) prog) C n l B0 x0 s:=by kernel_rfl
theorem f210_r0_e {C:OracleJ H} {rw:FuncId→Bool} {n l:Nat} {pe:Option Code} {E0 A0 B0 G0 D0 I0 F0 S0 T0 N0 J0 Q0 M0:Value} {s:St H} (hrw:rw 210=true) (h:loopD s l=some (0,pe,210,[E0,A0,B0,G0,D0,I0,F0,S0,T0,N0,J0,Q0,M0],[7],cdp Try.f210 [1,0,1,0,0],cdp Try.f210 [1,0,1,0,1])) (x0:Value):roundD prog rw C n l [x0] s=f210_r0 (dOps (H:=H) prog) C n l B0 x0 s:=by (unfold roundD; rw [h,bindS,hrw]; exact f210_r0_x C n l E0 A0 B0 G0 D0 I0 F0 S0 T0 N0 J0 Q0 M0 x0 s)
end Go.Proofs.Ytmhmbmogodofeaa.S
