import Derived.Test.YtmhmbmogodofeaaFy
import Derived.ProofKit
import Derived.Test.YtmhmbmogodofeaaRows
/- The plain runs of functions (printed by shal.py). -/
set_option autoImplicit false
set_option linter.unusedVariables false
set_option maxRecDepth 100000
namespace Go.Proofs.Ytmhmbmogodofeaa.S
open Go.FS Go.RowKit
abbrev RsT (H:HeapI):=Option (List (Value×St H))
variable {H:HeapI}
def f16_l0_m (D0 A0 A1 P0 M0 J0:Value) (x:Value):List Value:=[D0,A0,undefV,undefV,(.bool false),A1,x,undefV,undefV,undefV,undefV,undefV,undefV,P0,M0,J0,dc,dc,dc,dc,dc,dc,dc,dc,dc,dc,dc,dc,dc,dc,dc,dc,dc,dc,dc,dc,dc,dc,dc,dc,dc,dc,dc,dc,dc,dc,undefV,undefV,undefV,undefV,undefV,undefV,undefV,undefV,undefV,undefV,undefV,undefV,undefV,undefV,undefV,undefV,undefV,undefV,undefV,undefV,undefV,undefV,undefV,undefV,undefV,undefV,undefV,undefV,undefV,undefV,undefV,undefV,undefV,undefV,undefV,undefV,undefV,undefV,undefV,undefV,undefV,undefV,undefV,undefV,undefV,undefV,undefV,undefV,undefV,undefV,undefV,undefV,undefV,undefV,undefV,undefV,undefV,undefV,undefV,undefV,undefV,undefV,undefV,undefV,undefV,undefV,undefV,undefV,undefV,undefV]
noncomputable def f16_l0 (O:Ops H) (C:OracleJ H) (n:Nat) (D0 A1:Value) (nx:Value→St H→RsT H) (kx:Nat→Value→St H→RsT H) (kr:Value→St H→RsT H) (x:Value) (s:St H):RsT H :=
 jn (fun (j8_23:Value) =>
 (O.boolO j8_23).bind fun b27=>cond b27 (
 (O.indexAddr 88 D0 x).bind fun v28 =>
 (O.fieldAddr 95 v28 1).bind fun v29 =>
 (O.load s 69 v29).bind fun v30 =>
 (O.indexAddr 88 D0 x).bind fun v31 =>
 (O.fieldAddr 95 v31 2).bind fun v32 =>
 (O.load s 67 v32).bind fun v33 =>
 (O.indexAddr 88 D0 x).bind fun v34 =>
 (O.fieldAddr 95 v34 2).bind fun v35 =>
 (O.load s 67 v35).bind fun v36 =>
 (O.len s 67 v36).bind fun v37 =>
 (O.minO v37 [(Value.int IntKind.i64 6)]).bind fun v38 =>
 (O.slc s 67 v33 none (some v38) none).bind fun v39 =>
 (oneO C (.fn 47) [A1,v30,v39] s).bind fun p40 =>
 (O.bop .add 3 x (Value.int IntKind.i64 1)).bind fun v41 =>
 nx v41 p40.2) (
 kx 0 x s)) fun k8 =>
 (O.len s 88 D0).bind fun v9 =>
 (O.bop .lss 3 x v9).bind fun v10 =>
 gd v10 (
 (O.bop .lss 3 x (Value.int IntKind.i64 20)).bind fun v11 =>
 k8 v11) (
 k8 (.bool false)) (
 none)
theorem f16_l0_b (C:OracleJ H) (n:Nat) (D0 A0 A1 P0 M0 J0:Value) (x:Value) (s:St H) (nx:List Value→St H→RsT H) (K:Ex→List Value→St H→RsT H) :
 exec Try.prog false C n 16 none (cdp Try.f16 [1,1,1,0,1,0,0]) (f16_l0_m D0 A0 A1 P0 M0 J0 x) s (kIter (scratch (cdp Try.f16 [1,1,1,0,1,0,0])) nx K)=f16_l0 (dOps (H:=H) Try.prog) C n D0 A1 (fun x s=>nx (f16_l0_m D0 A0 A1 P0 M0 J0 x) s) (fun i x s=>K (.exit i) (f16_l0_m D0 A0 A1 P0 M0 J0 x) s) (fun x s=>K .ret (f16_l0_m D0 A0 A1 P0 M0 J0 x) s) x s:=by kernel_rfl
theorem f16_l0_e (C:OracleJ H) (n:Nat) (D0 A0 A1 P0 M0 J0:Value) (m:Nat) (x:Value) (s:St H) (K:Ex→List Value→St H→RsT H) :
 iter (fun t s k=>exec Try.prog false C n 16 none (cdp Try.f16 [1,1,1,0,1,0,0]) t s k) (scratch (cdp Try.f16 [1,1,1,0,1,0,0])) m (f16_l0_m D0 A0 A1 P0 M0 J0 x) s K=iterS (f16_l0 (dOps (H:=H) Try.prog) C n D0 A1) (fun i x s=>K (.exit i) (f16_l0_m D0 A0 A1 P0 M0 J0 x) s) (fun x s=>K .ret (f16_l0_m D0 A0 A1 P0 M0 J0 x) s) m x s :=
   iter_eq (f16_l0_m D0 A0 A1 P0 M0 J0) (f16_l0 (dOps (H:=H) Try.prog) C n D0 A1) (fun x s nx K=>f16_l0_b C n D0 A0 A1 P0 M0 J0 x s nx K) K m x s
noncomputable def f16 (O:Ops H) (C:OracleJ H) (n:Nat) (a0 a1:Value) (s:St H):RsT H :=
 (C (.fn 45) [] s).bind fun L1=>manyK L1 fun v2 s3 =>
 (O.uop .not v2).bind fun v4 =>
 (O.boolO v4).bind fun b5=>cond b5 (
 some [((.bool false),s3)]) (
 (C (.fn 46) [] s3).bind fun L6=>manyK L6 fun v7 s8 =>
 iterS (f16_l0 O C n a0 v7 )
 (fun T1 x43 s44=>(bif Nat.beq T1 0 then
 (C (.fn 61) [v7] s44).bind fun L47=>manyK L47 fun v48 s49 =>
 (C (.fn 62) [v48,(Value.int IntKind.i64 0)] s49).bind fun L50=>manyK L50 fun v51 s52 =>
 (O.extract v51 0).bind fun v53 =>
 (O.extract v51 1).bind fun v54 =>
 (O.extract v51 2).bind fun v55 =>
 (O.bop .neq 26 v55 (Value.int IntKind.i64 0)).bind fun v56 =>
 gd v56 (
 some [((.bool false),s52)]) (
 (O.len s52 35 v48).bind fun v57 =>
 (O.bop .neq 3 v54 v57).bind fun v58 =>
 gd v58 (
 some [((.bool false),s52)]) (
 (O.bop .eql 81 v53 (Go.Value.pointer none)).bind fun v59 =>
 gd v59 (
 some [((.bool false),s52)]) (
 (C (.fn 61) [v53] s52).bind fun L60=>manyK L60 fun v61 s62 =>
 (C (.fn 26) [v61,v48] s62).bind fun L63=>manyK L63 fun v64 s65 =>
 (O.uop .not v64).bind fun v66 =>
 (O.boolO v66).bind fun b71=>cond b71 (
 some [((.bool false),s65)]) (
 (O.len s65 35 a1).bind fun v72 =>
 (O.minO v72 [(Value.int IntKind.i64 300)]).bind fun v73 =>
 (O.slc s65 35 a1 none (some v73) none).bind fun v74 =>
 (C (.fn 62) [v74,(Value.int IntKind.i64 0)] s65).bind fun L75=>manyK L75 fun v76 s77 =>
 (O.extract v76 0).bind fun v78 =>
 (O.extract v76 1).bind fun v79 =>
 (O.extract v76 2).bind fun v80 =>
 (O.bop .neq 26 v80 (Value.int IntKind.i64 0)).bind fun v81 =>
 gd v81 (
 (O.bop .eql 81 v78 (Go.Value.pointer none)).bind fun v82 =>
 gd v82 (
 (O.bop .eql 3 v79 (Value.int IntKind.i64 0)).bind fun v83 =>
 gd v83 (
 some [((.bool true),s77)]) (
 (O.bop .eql 26 v80 (Value.int IntKind.i64 0)).bind fun v84 =>
 gd v84 (
 (O.bop .neq 81 v78 (Go.Value.pointer none)).bind fun v85 =>
 gd v85 (
 (O.len s77 35 v74).bind fun v86 =>
 (O.bop .leq 3 v79 v86).bind fun v87 =>
 gd v87 (
 (oneO C (.fn 61) [v78] s77).bind fun p88 =>
 (O.slc p88.2 35 v74 none (some v79) none).bind fun v89 =>
 (oneO C (.fn 26) [p88.1,v89] p88.2).bind fun p90 =>
 some [(p90.1,p90.2)]) (
 some [((.bool false),s77)]) (
 none)) (
 some [((.bool false),s77)]) (
 none)) (
 some [((.bool false),s77)]) (
 none)) (
 none)) (
 (O.bop .eql 26 v80 (Value.int IntKind.i64 0)).bind fun v91 =>
 gd v91 (
 (O.bop .neq 81 v78 (Go.Value.pointer none)).bind fun v92 =>
 gd v92 (
 (O.len s77 35 v74).bind fun v93 =>
 (O.bop .leq 3 v79 v93).bind fun v94 =>
 gd v94 (
 (oneO C (.fn 61) [v78] s77).bind fun p95 =>
 (O.slc p95.2 35 v74 none (some v79) none).bind fun v96 =>
 (oneO C (.fn 26) [p95.1,v96] p95.2).bind fun p97 =>
 some [(p97.1,p97.2)]) (
 some [((.bool false),s77)]) (
 none)) (
 some [((.bool false),s77)]) (
 none)) (
 some [((.bool false),s77)]) (
 none)) (
 none)) (
 (O.bop .eql 26 v80 (Value.int IntKind.i64 0)).bind fun v98 =>
 gd v98 (
 (O.bop .neq 81 v78 (Go.Value.pointer none)).bind fun v99 =>
 gd v99 (
 (O.len s77 35 v74).bind fun v100 =>
 (O.bop .leq 3 v79 v100).bind fun v101 =>
 gd v101 (
 (oneO C (.fn 61) [v78] s77).bind fun p102 =>
 (O.slc p102.2 35 v74 none (some v79) none).bind fun v103 =>
 (oneO C (.fn 26) [p102.1,v103] p102.2).bind fun p104 =>
 some [(p104.1,p104.2)]) (
 some [((.bool false),s77)]) (
 none)) (
 some [((.bool false),s77)]) (
 none)) (
 some [((.bool false),s77)]) (
 none)) (
 none))) (
 none)) (
 none)) (
 none) else none))
 (fun x45 s46=>some [((.bool false),s46)]) n (Value.int IntKind.i64 0) s8)
theorem f16_l0_k (C:OracleJ H) (n:Nat) (D0 A0 A1 P0 M0 J0:Value) (i:Nat) (x:Value) (s:St H):(kBlock 0 (kSeq Try.prog false C n 16 none (cdp Try.f16 [1,1,1,1]) (kFun Try.prog Try.f16))) (.exit i) (f16_l0_m D0 A0 A1 P0 M0 J0 x) s =
 (bif Nat.beq i 0 then
 (C (.fn 61) [A1] s).bind fun L171=>manyK L171 fun v172 s173 =>
 (C (.fn 62) [v172,(Value.int IntKind.i64 0)] s173).bind fun L174=>manyK L174 fun v175 s176 =>
 ((dOps (H:=H) Try.prog).extract v175 0).bind fun v177 =>
 ((dOps (H:=H) Try.prog).extract v175 1).bind fun v178 =>
 ((dOps (H:=H) Try.prog).extract v175 2).bind fun v179 =>
 ((dOps (H:=H) Try.prog).bop .neq 26 v179 (Value.int IntKind.i64 0)).bind fun v180 =>
 gd v180 (
 some [((.bool false),s176)]) (
 ((dOps (H:=H) Try.prog).len s176 35 v172).bind fun v181 =>
 ((dOps (H:=H) Try.prog).bop .neq 3 v178 v181).bind fun v182 =>
 gd v182 (
 some [((.bool false),s176)]) (
 ((dOps (H:=H) Try.prog).bop .eql 81 v177 (Go.Value.pointer none)).bind fun v183 =>
 gd v183 (
 some [((.bool false),s176)]) (
 (C (.fn 61) [v177] s176).bind fun L184=>manyK L184 fun v185 s186 =>
 (C (.fn 26) [v185,v172] s186).bind fun L187=>manyK L187 fun v188 s189 =>
 ((dOps (H:=H) Try.prog).uop .not v188).bind fun v190 =>
 ((dOps (H:=H) Try.prog).boolO v190).bind fun b195=>cond b195 (
 some [((.bool false),s189)]) (
 ((dOps (H:=H) Try.prog).len s189 35 A0).bind fun v196 =>
 ((dOps (H:=H) Try.prog).minO v196 [(Value.int IntKind.i64 300)]).bind fun v197 =>
 ((dOps (H:=H) Try.prog).slc s189 35 A0 none (some v197) none).bind fun v198 =>
 (C (.fn 62) [v198,(Value.int IntKind.i64 0)] s189).bind fun L199=>manyK L199 fun v200 s201 =>
 ((dOps (H:=H) Try.prog).extract v200 0).bind fun v202 =>
 ((dOps (H:=H) Try.prog).extract v200 1).bind fun v203 =>
 ((dOps (H:=H) Try.prog).extract v200 2).bind fun v204 =>
 ((dOps (H:=H) Try.prog).bop .neq 26 v204 (Value.int IntKind.i64 0)).bind fun v205 =>
 gd v205 (
 ((dOps (H:=H) Try.prog).bop .eql 81 v202 (Go.Value.pointer none)).bind fun v206 =>
 gd v206 (
 ((dOps (H:=H) Try.prog).bop .eql 3 v203 (Value.int IntKind.i64 0)).bind fun v207 =>
 gd v207 (
 some [((.bool true),s201)]) (
 ((dOps (H:=H) Try.prog).bop .eql 26 v204 (Value.int IntKind.i64 0)).bind fun v208 =>
 gd v208 (
 ((dOps (H:=H) Try.prog).bop .neq 81 v202 (Go.Value.pointer none)).bind fun v209 =>
 gd v209 (
 ((dOps (H:=H) Try.prog).len s201 35 v198).bind fun v210 =>
 ((dOps (H:=H) Try.prog).bop .leq 3 v203 v210).bind fun v211 =>
 gd v211 (
 (oneO C (.fn 61) [v202] s201).bind fun p212 =>
 ((dOps (H:=H) Try.prog).slc p212.2 35 v198 none (some v203) none).bind fun v213 =>
 (oneO C (.fn 26) [p212.1,v213] p212.2).bind fun p214 =>
 some [(p214.1,p214.2)]) (
 some [((.bool false),s201)]) (
 none)) (
 some [((.bool false),s201)]) (
 none)) (
 some [((.bool false),s201)]) (
 none)) (
 none)) (
 ((dOps (H:=H) Try.prog).bop .eql 26 v204 (Value.int IntKind.i64 0)).bind fun v215 =>
 gd v215 (
 ((dOps (H:=H) Try.prog).bop .neq 81 v202 (Go.Value.pointer none)).bind fun v216 =>
 gd v216 (
 ((dOps (H:=H) Try.prog).len s201 35 v198).bind fun v217 =>
 ((dOps (H:=H) Try.prog).bop .leq 3 v203 v217).bind fun v218 =>
 gd v218 (
 (oneO C (.fn 61) [v202] s201).bind fun p219 =>
 ((dOps (H:=H) Try.prog).slc p219.2 35 v198 none (some v203) none).bind fun v220 =>
 (oneO C (.fn 26) [p219.1,v220] p219.2).bind fun p221 =>
 some [(p221.1,p221.2)]) (
 some [((.bool false),s201)]) (
 none)) (
 some [((.bool false),s201)]) (
 none)) (
 some [((.bool false),s201)]) (
 none)) (
 none)) (
 ((dOps (H:=H) Try.prog).bop .eql 26 v204 (Value.int IntKind.i64 0)).bind fun v222 =>
 gd v222 (
 ((dOps (H:=H) Try.prog).bop .neq 81 v202 (Go.Value.pointer none)).bind fun v223 =>
 gd v223 (
 ((dOps (H:=H) Try.prog).len s201 35 v198).bind fun v224 =>
 ((dOps (H:=H) Try.prog).bop .leq 3 v203 v224).bind fun v225 =>
 gd v225 (
 (oneO C (.fn 61) [v202] s201).bind fun p226 =>
 ((dOps (H:=H) Try.prog).slc p226.2 35 v198 none (some v203) none).bind fun v227 =>
 (oneO C (.fn 26) [p226.1,v227] p226.2).bind fun p228 =>
 some [(p228.1,p228.2)]) (
 some [((.bool false),s201)]) (
 none)) (
 some [((.bool false),s201)]) (
 none)) (
 some [((.bool false),s201)]) (
 none)) (
 none))) (
 none)) (
 none)) (
 none) else none):=by kernel_rfl
theorem f16_r (C:OracleJ H) (n:Nat) (a0 a1:Value) (s:St H):bodyD Try.prog false C n 16 Try.f16 [a0,a1] s=f16 (dOps (H:=H) Try.prog) C n a0 a1 s:=by
  have h1:bodyD Try.prog false C n 16 Try.f16 [a0,a1] s =
 (C (.fn 45) [] s).bind fun L105=>manyK L105 fun v106 s107 =>
 ((dOps (H:=H) Try.prog).uop .not v106).bind fun v108 =>
 ((dOps (H:=H) Try.prog).boolO v108).bind fun b109=>cond b109 (
 some [((.bool false),s107)]) (
 (C (.fn 46) [] s107).bind fun L110=>manyK L110 fun v111 s112 =>
 iter (fun t s k=>exec Try.prog false C n 16 none (cdp Try.f16 [1,1,1,0,1,0,0]) t s k) (scratch (cdp Try.f16 [1,1,1,0,1,0,0])) n (f16_l0_m a0 a1 v111 v106 v108 v111 (Value.int IntKind.i64 0)) s112 (kBlock 0 (kSeq Try.prog false C n 16 none (cdp Try.f16 [1,1,1,1]) (kFun Try.prog Try.f16)))):=by kernel_rfl
  rw [h1]
  simp only [f16_l0_e,f16_l0_k]
  show _=f16 (dOps (H:=H) Try.prog) C n a0 a1 s
  kernel_rfl
noncomputable def f26 (O:Ops H) (C:OracleJ H) (n:Nat) (a0 a1:Value) (s:St H):RsT H :=
 (O.conv false s 35 9 a0).bind fun p1 =>
 (O.conv false p1.2 35 9 a1).bind fun p2 =>
 (O.bop .eql 9 p1.1 p2.1).bind fun v3 =>
 some [(v3,p2.2)]
theorem f26_r (C:OracleJ H) (n:Nat) (a0 a1:Value) (s:St H):bodyD Try.prog false C n 26 Try.f26 [a0,a1] s=f26 (dOps (H:=H) Try.prog) C n a0 a1 s:=by kernel_rfl
noncomputable def f45 (O:Ops H) (C:OracleJ H) (n:Nat) (s:St H):RsT H :=
 (C (.fn 46) [] s).bind fun L1=>manyK L1 fun v2 s3 =>
 (O.bop .eql 81 v2 (Go.Value.pointer none)).bind fun v4 =>
 (O.boolO v4).bind fun b5=>cond b5 (
 some [((.bool false),s3)]) (
 (O.build 69 [(0,(Value.int IntKind.i64 5)),(1,(Value.int IntKind.i64 9))]).bind fun v6 =>
 (O.buildSlice false s3 67 1 [(0,(Value.int IntKind.u64 3))]).bind fun p7 =>
 (C (.fn 47) [v2,v6,p7.1] p7.2).bind fun L8=>manyK L8 fun v9 s10 =>
 (O.build 69 [(0,(Value.int IntKind.i64 12)),(1,(Value.int IntKind.i64 20))]).bind fun v11 =>
 (O.buildSlice false s10 67 1 [(0,(Value.int IntKind.u64 3))]).bind fun p12 =>
 (C (.fn 47) [v2,v11,p12.1] p12.2).bind fun L13=>manyK L13 fun v14 s15 =>
 (O.build 69 [(0,(Value.int IntKind.i64 10)),(1,(Value.int IntKind.i64 11))]).bind fun v16 =>
 (O.buildSlice false s15 67 1 [(0,(Value.int IntKind.u64 3))]).bind fun p17 =>
 (C (.fn 47) [v2,v16,p17.1] p17.2).bind fun L18=>manyK L18 fun v19 s20 =>
 (O.bop .eql 26 v19 (Value.int IntKind.i64 0)).bind fun v21 =>
 gd v21 (
 (C (.fn 50) [v2,(Value.int IntKind.u64 3)] s20).bind fun L22=>manyK L22 fun v23 s24 =>
 (O.build 69 [(0,(Value.int IntKind.i64 5)),(1,(Value.int IntKind.i64 20))]).bind fun v25 =>
 (O.buildSlice false s24 80 1 [(0,v25)]).bind fun p26 =>
 (C (.fn 49) [v23,p26.1] p26.2).bind fun L27=>manyK L27 fun v28 s29 =>
 gd v28 (
 (C (.fn 48) [v2,(Value.int IntKind.u64 3),(Value.int IntKind.i64 11)] s29).bind fun L30=>manyK L30 fun v31 s32 =>
 gd v31 (
 (C (.fn 48) [v2,(Value.int IntKind.u64 3),(Value.int IntKind.i64 21)] s32).bind fun L33=>manyK L33 fun v34 s35 =>
 (O.uop .not v34).bind fun v36 =>
 gd v36 (
 (C (.fn 48) [v2,(Value.int IntKind.u64 4),(Value.int IntKind.i64 11)] s35).bind fun L37=>manyK L37 fun v38 s39 =>
 (O.uop .not v38).bind fun v40 =>
 some [(v40,s39)]) (
 some [((.bool false),s35)]) (
 none)) (
 some [((.bool false),s32)]) (
 none)) (
 some [((.bool false),s29)]) (
 none)) (
 some [((.bool false),s20)]) (
 none))
theorem f45_r (C:OracleJ H) (n:Nat) (s:St H):bodyD Try.prog false C n 45 Try.f45 [] s=f45 (dOps (H:=H) Try.prog) C n s:=by kernel_rfl
noncomputable def f46 (O:Ops H) (C:OracleJ H) (n:Nat) (s:St H):RsT H :=
 (O.makeMap s 156 none).bind fun p1 =>
 (O.build 158 [(0,p1.1)]).bind fun v2 =>
 (O.box p1.2 v2).bind fun p3 =>
 some [(p3.1,p3.2)]
theorem f46_r (C:OracleJ H) (n:Nat) (s:St H):bodyD Try.prog false C n 46 Try.f46 [] s=f46 (dOps (H:=H) Try.prog) C n s:=by kernel_rfl
def f47_l0_m (D0 A0 B0 E0 R0 G0 N0 Q0 P0 M0 J0 S0 T0 U0 V0:Value) (x:Value×Value):List Value:=[D0,A0,B0,undefV,E0,undefV,(Value.int IntKind.i64 0),undefV,x.1,R0,G0,N0,Q0,P0,M0,J0,S0,T0,U0,V0,x.2,dc,dc,dc,dc,dc,dc,dc,dc,dc,dc,dc,dc,dc,dc,dc,dc,dc,dc,dc,dc,dc]
noncomputable def f47_l0 (O:Ops H) (C:OracleJ H) (n:Nat) (D0 E0 U0 V0:Value) (nx:(Value×Value)→St H→RsT H) (kx:Nat→(Value×Value)→St H→RsT H) (kr:(Value×Value)→St H→RsT H) (x:Value×Value) (s:St H):RsT H :=
 (O.bop .lss 3 x.2 V0).bind fun v14 =>
 (O.boolO v14).bind fun b15=>cond b15 (
 (O.indexAddr 67 U0 x.2).bind fun v16 =>
 (O.load s 70 v16).bind fun v17 =>
 (O.nilCheck D0).bind fun v18 =>
 (O.fieldAddr 158 v18 0).bind fun v19 =>
 (O.load s 156 v19).bind fun v20 =>
 (O.nilCheck D0).bind fun v21 =>
 (O.fieldAddr 158 v21 0).bind fun v22 =>
 (O.load s 156 v22).bind fun v23 =>
 (O.lookup s 156 v23 v17 false).bind fun v24 =>
 (O.fieldAddr 69 E0 0).bind fun v25 =>
 (O.load s 3 v25).bind fun v26 =>
 (O.fieldAddr 69 E0 1).bind fun v27 =>
 (O.load s 3 v27).bind fun v28 =>
 (O.build 163 [(0,v26),(1,v28)]).bind fun v29 =>
 (oneO C (.fn 103) [v24,v29,(.func (.func 104) #[] #[])] s).bind fun p30 =>
 (O.mapUpdate p30.2 156 v20 v17 p30.1).bind fun s31 =>
 bif (eqO H (O.load s 156 v19) v20&&(eqO H (O.load p30.2 156 v19) v20&&(true)))&&(true) then
 (O.bop .add 3 x.2 (Value.int IntKind.i64 1)).bind fun v32 =>
 nx (v17,v32) s31
 else none) (
 kx 1 (x.1,x.2) s)
theorem f47_l0_b (C:OracleJ H) (n:Nat) (D0 A0 B0 E0 R0 G0 N0 Q0 P0 M0 J0 S0 T0 U0 V0:Value) (x:Value×Value) (s:St H) (nx:List Value→St H→RsT H) (K:Ex→List Value→St H→RsT H) :
 exec Try.prog false C n 47 none (cdp Try.f47 [1,1,0,1,0,0]) (f47_l0_m D0 A0 B0 E0 R0 G0 N0 Q0 P0 M0 J0 S0 T0 U0 V0 x) s (kIter (scratch (cdp Try.f47 [1,1,0,1,0,0])) nx K)=f47_l0 (dOps (H:=H) Try.prog) C n D0 E0 U0 V0 (fun x s=>nx (f47_l0_m D0 A0 B0 E0 R0 G0 N0 Q0 P0 M0 J0 S0 T0 U0 V0 x) s) (fun i x s=>K (.exit i) (f47_l0_m D0 A0 B0 E0 R0 G0 N0 Q0 P0 M0 J0 S0 T0 U0 V0 x) s) (fun x s=>K .ret (f47_l0_m D0 A0 B0 E0 R0 G0 N0 Q0 P0 M0 J0 S0 T0 U0 V0 x) s) x s:=by kernel_rfl
theorem f47_l0_e (C:OracleJ H) (n:Nat) (D0 A0 B0 E0 R0 G0 N0 Q0 P0 M0 J0 S0 T0 U0 V0:Value) (m:Nat) (x:Value×Value) (s:St H) (K:Ex→List Value→St H→RsT H) :
 iter (fun t s k=>exec Try.prog false C n 47 none (cdp Try.f47 [1,1,0,1,0,0]) t s k) (scratch (cdp Try.f47 [1,1,0,1,0,0])) m (f47_l0_m D0 A0 B0 E0 R0 G0 N0 Q0 P0 M0 J0 S0 T0 U0 V0 x) s K=iterS (f47_l0 (dOps (H:=H) Try.prog) C n D0 E0 U0 V0) (fun i x s=>K (.exit i) (f47_l0_m D0 A0 B0 E0 R0 G0 N0 Q0 P0 M0 J0 S0 T0 U0 V0 x) s) (fun x s=>K .ret (f47_l0_m D0 A0 B0 E0 R0 G0 N0 Q0 P0 M0 J0 S0 T0 U0 V0 x) s) m x s :=
   iter_eq (f47_l0_m D0 A0 B0 E0 R0 G0 N0 Q0 P0 M0 J0 S0 T0 U0 V0) (f47_l0 (dOps (H:=H) Try.prog) C n D0 E0 U0 V0) (fun x s nx K=>f47_l0_b C n D0 A0 B0 E0 R0 G0 N0 Q0 P0 M0 J0 S0 T0 U0 V0 x s nx K) K m x s
noncomputable def f47 (O:Ops H) (C:OracleJ H) (n:Nat) (a0 a1 a2:Value) (s:St H):RsT H :=
 (O.box s a1).bind fun p1 =>
 (C (.fn 101) [a0] p1.2).bind fun L2=>manyK L2 fun v3 s4 =>
 (O.uop .not v3).bind fun v5 =>
 (O.boolO v5).bind fun b6=>cond b6 (
 some [((Value.int IntKind.i64 1),s4)]) (
 (O.load s4 69 p1.1).bind fun v7 =>
 (C (.fn 102) [v7,a2] s4).bind fun L8=>manyK L8 fun v9 s10 =>
 (O.uop .not v9).bind fun v11 =>
 (O.boolO v11).bind fun b12=>cond b12 (
 some [((Value.int IntKind.i64 2),s10)]) (
 (O.len s10 67 a2).bind fun v13 =>
 iterS (f47_l0 O C n a0 p1.1 a2 v13 )
 (fun R1 x34 s35=>(bif Nat.beq R1 1 then
 some [((Value.int IntKind.i64 0),s35)] else none))
 (fun x36 s37=>some [((Value.int IntKind.i64 0),s37)]) n (undefV,(Value.int IntKind.i64 0)) s10))
theorem f47_l0_k (C:OracleJ H) (n:Nat) (D0 A0 B0 E0 R0 G0 N0 Q0 P0 M0 J0 S0 T0 U0 V0:Value) (i:Nat) (x:Value×Value) (s:St H):(kBlock 1 (kSeq Try.prog false C n 47 none (cdp Try.f47 [1,1,1]) (kFun Try.prog Try.f47))) (.exit i) (f47_l0_m D0 A0 B0 E0 R0 G0 N0 Q0 P0 M0 J0 S0 T0 U0 V0 x) s =
 (bif Nat.beq i 1 then
 some [((Value.int IntKind.i64 0),s)] else none):=by kernel_rfl
theorem f47_r (C:OracleJ H) (n:Nat) (a0 a1 a2:Value) (s:St H):bodyD Try.prog false C n 47 Try.f47 [a0,a1,a2] s=f47 (dOps (H:=H) Try.prog) C n a0 a1 a2 s:=by
  have h1:bodyD Try.prog false C n 47 Try.f47 [a0,a1,a2] s =
 ((dOps (H:=H) Try.prog).box s a1).bind fun p38 =>
 (C (.fn 101) [a0] p38.2).bind fun L39=>manyK L39 fun v40 s41 =>
 ((dOps (H:=H) Try.prog).uop .not v40).bind fun v42 =>
 ((dOps (H:=H) Try.prog).boolO v42).bind fun b43=>cond b43 (
 some [((Value.int IntKind.i64 1),s41)]) (
 ((dOps (H:=H) Try.prog).load s41 69 p38.1).bind fun v44 =>
 (C (.fn 102) [v44,a2] s41).bind fun L45=>manyK L45 fun v46 s47 =>
 ((dOps (H:=H) Try.prog).uop .not v46).bind fun v48 =>
 ((dOps (H:=H) Try.prog).boolO v48).bind fun b49=>cond b49 (
 some [((Value.int IntKind.i64 2),s47)]) (
 ((dOps (H:=H) Try.prog).len s47 67 a2).bind fun v50 =>
 iter (fun t s k=>exec Try.prog false C n 47 none (cdp Try.f47 [1,1,0,1,0,0]) t s k) (scratch (cdp Try.f47 [1,1,0,1,0,0])) n (f47_l0_m a0 a1 a2 p38.1 v42 a0 v40 v42 v48 v44 a2 v46 v48 a2 v50 (undefV,(Value.int IntKind.i64 0))) s47 (kBlock 1 (kSeq Try.prog false C n 47 none (cdp Try.f47 [1,1,1]) (kFun Try.prog Try.f47))))):=by kernel_rfl
  rw [h1]
  simp only [f47_l0_e,f47_l0_k]
  show _=f47 (dOps (H:=H) Try.prog) C n a0 a1 a2 s
  kernel_rfl
noncomputable def f48 (O:Ops H) (C:OracleJ H) (n:Nat) (a0 a1 a2:Value) (s:St H):RsT H :=
 (O.box s a2).bind fun p1 =>
 (O.alloc p1.2 4).bind fun p2 =>
 (C (.fn 105) [a0,a1] p2.2).bind fun L3=>manyK L3 fun v4 s5 =>
 rngO Try.prog O C 48 v4 [a0,a1,a2,undefV,undefV,p1.1,p2.1,undefV,a0,a1,v4,undefV,undefV,undefV,undefV,undefV,undefV,undefV,undefV,undefV,undefV,undefV] [11] (cdp Try.f48 [1,0,1,0,0]) (cdp Try.f48 [1,0,1,0,1]) s5
 (fun s6=>(O.store s6 4 p2.1 (.bool false)).bind fun s13 =>
 (O.load s13 4 p2.1).bind fun v14=>some [(v14,s13)])
 (fun s7=>(O.load s7 4 p2.1).bind fun v10=>some [(v10,s7)])
 (fun R0 s8=>(bif Nat.beq R0 0 then
 (O.store s8 4 p2.1 (.bool false)).bind fun s15 =>
 (O.load s15 4 p2.1).bind fun v16=>some [(v16,s15)] else none))
theorem f48_r (C:OracleJ H) (n:Nat) (a0 a1 a2:Value) (s:St H):bodyD Try.prog false C n 48 Try.f48 [a0,a1,a2] s=f48 (dOps (H:=H) Try.prog) C n a0 a1 a2 s:=by kernel_rfl
def f49_l0_m (D0 A0 F0 B1 Y0 R0 G0:Value) (x:Value×Value):List Value:=[D0,A0,undefV,undefV,x.1,x.2,F0,B1,Y0,R0,G0,dc,dc,dc,dc,dc,dc,dc,dc,dc,dc,dc,dc,dc,dc,dc]
noncomputable def f49_l0 (O:Ops H) (C:OracleJ H) (n:Nat) (D0 A0:Value) (nx:(Value×Value)→St H→RsT H) (kx:Nat→(Value×Value)→St H→RsT H) (kr:(Value×Value)→St H→RsT H) (x:Value×Value) (s:St H):RsT H :=
 (O.len s 80 D0).bind fun v5 =>
 (O.bop .lss 3 x.2 v5).bind fun v6 =>
 (O.boolO v6).bind fun b7=>cond b7 (
 (O.indexAddr 80 D0 x.2).bind fun v8 =>
 (O.load s 69 v8).bind fun v9 =>
 (O.indexAddr 80 A0 x.2).bind fun v10 =>
 (O.load s 69 v10).bind fun v11 =>
 (O.bop .neq 69 v9 v11).bind fun v12 =>
 (O.boolO v12).bind fun b13=>cond b13 (
 kr ((.bool false),x.2) s) (
 (O.bop .add 3 x.2 (Value.int IntKind.i64 1)).bind fun v14 =>
 nx (x.1,v14) s)) (
 kx 0 (x.1,x.2) s)
theorem f49_l0_b (C:OracleJ H) (n:Nat) (D0 A0 F0 B1 Y0 R0 G0:Value) (x:Value×Value) (s:St H) (nx:List Value→St H→RsT H) (K:Ex→List Value→St H→RsT H) :
 exec Try.prog false C n 49 none (cdp Try.f49 [1,1,0,1,0,0]) (f49_l0_m D0 A0 F0 B1 Y0 R0 G0 x) s (kIter (scratch (cdp Try.f49 [1,1,0,1,0,0])) nx K)=f49_l0 (dOps (H:=H) Try.prog) C n D0 A0 (fun x s=>nx (f49_l0_m D0 A0 F0 B1 Y0 R0 G0 x) s) (fun i x s=>K (.exit i) (f49_l0_m D0 A0 F0 B1 Y0 R0 G0 x) s) (fun x s=>K .ret (f49_l0_m D0 A0 F0 B1 Y0 R0 G0 x) s) x s:=by kernel_rfl
theorem f49_l0_e (C:OracleJ H) (n:Nat) (D0 A0 F0 B1 Y0 R0 G0:Value) (m:Nat) (x:Value×Value) (s:St H) (K:Ex→List Value→St H→RsT H) :
 iter (fun t s k=>exec Try.prog false C n 49 none (cdp Try.f49 [1,1,0,1,0,0]) t s k) (scratch (cdp Try.f49 [1,1,0,1,0,0])) m (f49_l0_m D0 A0 F0 B1 Y0 R0 G0 x) s K=iterS (f49_l0 (dOps (H:=H) Try.prog) C n D0 A0) (fun i x s=>K (.exit i) (f49_l0_m D0 A0 F0 B1 Y0 R0 G0 x) s) (fun x s=>K .ret (f49_l0_m D0 A0 F0 B1 Y0 R0 G0 x) s) m x s :=
   iter_eq (f49_l0_m D0 A0 F0 B1 Y0 R0 G0) (f49_l0 (dOps (H:=H) Try.prog) C n D0 A0) (fun x s nx K=>f49_l0_b C n D0 A0 F0 B1 Y0 R0 G0 x s nx K) K m x s
noncomputable def f49 (O:Ops H) (C:OracleJ H) (n:Nat) (a0 a1:Value) (s:St H):RsT H :=
 (O.len s 80 a0).bind fun v1 =>
 (O.len s 80 a1).bind fun v2 =>
 (O.bop .neq 3 v1 v2).bind fun v3 =>
 (O.boolO v3).bind fun b4=>cond b4 (
 some [((.bool false),s)]) (
 iterS (f49_l0 O C n a0 a1 )
 (fun J0 x16 s17=>(bif Nat.beq J0 0 then
 some [((.bool true),s17)] else none))
 (fun x18 s19=>some [(x18.1,s19)]) n ((.bool false),(Value.int IntKind.i64 0)) s)
theorem f49_l0_k (C:OracleJ H) (n:Nat) (D0 A0 F0 B1 Y0 R0 G0:Value) (i:Nat) (x:Value×Value) (s:St H):(kBlock 0 (kSeq Try.prog false C n 49 none (cdp Try.f49 [1,1,1]) (kFun Try.prog Try.f49))) (.exit i) (f49_l0_m D0 A0 F0 B1 Y0 R0 G0 x) s =
 (bif Nat.beq i 0 then
 some [((.bool true),s)] else none):=by kernel_rfl
theorem f49_r (C:OracleJ H) (n:Nat) (a0 a1:Value) (s:St H):bodyD Try.prog false C n 49 Try.f49 [a0,a1] s=f49 (dOps (H:=H) Try.prog) C n a0 a1 s:=by
  have h1:bodyD Try.prog false C n 49 Try.f49 [a0,a1] s =
 ((dOps (H:=H) Try.prog).len s 80 a0).bind fun v20 =>
 ((dOps (H:=H) Try.prog).len s 80 a1).bind fun v21 =>
 ((dOps (H:=H) Try.prog).bop .neq 3 v20 v21).bind fun v22 =>
 ((dOps (H:=H) Try.prog).boolO v22).bind fun b23=>cond b23 (
 some [((.bool false),s)]) (
 iter (fun t s k=>exec Try.prog false C n 49 none (cdp Try.f49 [1,1,0,1,0,0]) t s k) (scratch (cdp Try.f49 [1,1,0,1,0,0])) n (f49_l0_m a0 a1 a0 v20 a1 v21 v22 ((.bool false),(Value.int IntKind.i64 0))) s (kBlock 0 (kSeq Try.prog false C n 49 none (cdp Try.f49 [1,1,1]) (kFun Try.prog Try.f49)))):=by kernel_rfl
  rw [h1]
  simp only [f49_l0_e,f49_l0_k]
  show _=f49 (dOps (H:=H) Try.prog) C n a0 a1 s
  kernel_rfl
noncomputable def f50 (O:Ops H) (C:OracleJ H) (n:Nat) (a0 a1:Value) (s:St H):RsT H :=
 (C (.fn 105) [a0,a1] s).bind fun L1=>manyK L1 fun v2 s3 =>
 (C (.fn 106) [v2] s3).bind fun L4=>manyK L4 fun v5 s6 =>
 some [(v5,s6)]
theorem f50_r (C:OracleJ H) (n:Nat) (a0 a1:Value) (s:St H):bodyD Try.prog false C n 50 Try.f50 [a0,a1] s=f50 (dOps (H:=H) Try.prog) C n a0 a1 s:=by kernel_rfl
def f61_l1_m (D0 B0 E0 F0 G0 N0 Q0 P0 M0 J0 S0 T0 U0 V0 X0 W0 Z0 P1 F1 E1 G1 I1 J1 D1 U1 V1 Q1 R1 W1 S1 X1 Y1 Z1 A2 B2 D2 T1 E2 F2 G2 I2 M1 N1:Value) (x:Value×Value×Value):List Value:=[D0,undefV,B0,x.1,E0,undefV,F0,x.2.1,undefV,dc,G0,N0,Q0,P0,M0,J0,S0,T0,U0,V0,X0,W0,Z0,P1,F1,E1,G1,I1,J1,D1,U1,V1,Q1,R1,W1,S1,X1,Y1,Z1,A2,B2,D2,T1,E2,F2,G2,I2,M1,N1,x.2.2,dc,dc,dc,dc,dc,dc,dc,dc,dc,dc,dc,dc,dc,dc,dc,dc,dc,dc,dc,dc,dc,undefV]
noncomputable def f61_l1 (O:Ops H) (C:OracleJ H) (n:Nat) (M1 N1:Value) (nx:(Value×Value×Value)→St H→RsT H) (kx:Nat→(Value×Value×Value)→St H→RsT H) (kr:(Value×Value×Value)→St H→RsT H) (x:Value×Value×Value) (s:St H):RsT H :=
 (O.bop .lss 3 x.2.2 N1).bind fun v36 =>
 (O.boolO v36).bind fun b37=>cond b37 (
 (O.indexAddr 160 M1 x.2.2).bind fun v38 =>
 (O.load s 163 v38).bind fun v39 =>
 (O.alloc s 163).bind fun p40 =>
 (O.store p40.2 163 p40.1 v39).bind fun s41 =>
 (O.fieldAddr 163 p40.1 0).bind fun v42 =>
 (O.load s41 3 v42).bind fun v43 =>
 (O.bop .sub 3 v43 x.2.1).bind fun v44 =>
 (O.conv false s41 3 70 v44).bind fun p45 =>
 (oneO C (.fn 72) [x.1,p45.1] p45.2).bind fun p46 =>
 (O.fieldAddr 163 p40.1 1).bind fun v47 =>
 (O.load p46.2 3 v47).bind fun v48 =>
 (O.fieldAddr 163 p40.1 0).bind fun v49 =>
 (O.load p46.2 3 v49).bind fun v50 =>
 (O.bop .sub 3 v48 v50).bind fun v51 =>
 (O.conv false p46.2 3 70 v51).bind fun p52 =>
 (oneO C (.fn 72) [p46.1,p52.1] p52.2).bind fun p53 =>
 bif (eqO H ((O.conv false s41 3 70 v51).map (·.1)) p52.1&&(eqO H ((O.conv false p46.2 3 70 v51).map (·.1)) p52.1&&(true)))&&((eqO H (O.load s41 3 v49) v50&&(eqO H (O.load p46.2 3 v49) v50&&(true)))&&((eqO H (O.load s41 3 v47) v48&&(eqO H (O.load p46.2 3 v47) v48&&(true)))&&(true))) then
 (O.fieldAddr 163 p40.1 1).bind fun v54 =>
 (O.load p53.2 3 v54).bind fun v55 =>
 (O.bop .add 3 x.2.2 (Value.int IntKind.i64 1)).bind fun v56 =>
 nx (p53.1,v55,v56) p53.2
 else none) (
 kx 2 (x.1,x.2.1,x.2.2) s)
theorem f61_l1_b (C:OracleJ H) (n:Nat) (D0 B0 E0 F0 G0 N0 Q0 P0 M0 J0 S0 T0 U0 V0 X0 W0 Z0 P1 F1 E1 G1 I1 J1 D1 U1 V1 Q1 R1 W1 S1 X1 Y1 Z1 A2 B2 D2 T1 E2 F2 G2 I2 M1 N1:Value) (x:Value×Value×Value) (s:St H) (nx:List Value→St H→RsT H) (K:Ex→List Value→St H→RsT H) :
 exec Try.prog false C n 61 none (cdp Try.f61 [1,1,1,1,0,1,0,0,1,1,0,0,1,1,1,1,1,0,0]) (f61_l1_m D0 B0 E0 F0 G0 N0 Q0 P0 M0 J0 S0 T0 U0 V0 X0 W0 Z0 P1 F1 E1 G1 I1 J1 D1 U1 V1 Q1 R1 W1 S1 X1 Y1 Z1 A2 B2 D2 T1 E2 F2 G2 I2 M1 N1 x) s (kIter (scratch (cdp Try.f61 [1,1,1,1,0,1,0,0,1,1,0,0,1,1,1,1,1,0,0])) nx K)=f61_l1 (dOps (H:=H) Try.prog) C n M1 N1 (fun x s=>nx (f61_l1_m D0 B0 E0 F0 G0 N0 Q0 P0 M0 J0 S0 T0 U0 V0 X0 W0 Z0 P1 F1 E1 G1 I1 J1 D1 U1 V1 Q1 R1 W1 S1 X1 Y1 Z1 A2 B2 D2 T1 E2 F2 G2 I2 M1 N1 x) s) (fun i x s=>K (.exit i) (f61_l1_m D0 B0 E0 F0 G0 N0 Q0 P0 M0 J0 S0 T0 U0 V0 X0 W0 Z0 P1 F1 E1 G1 I1 J1 D1 U1 V1 Q1 R1 W1 S1 X1 Y1 Z1 A2 B2 D2 T1 E2 F2 G2 I2 M1 N1 x) s) (fun x s=>K .ret (f61_l1_m D0 B0 E0 F0 G0 N0 Q0 P0 M0 J0 S0 T0 U0 V0 X0 W0 Z0 P1 F1 E1 G1 I1 J1 D1 U1 V1 Q1 R1 W1 S1 X1 Y1 Z1 A2 B2 D2 T1 E2 F2 G2 I2 M1 N1 x) s) x s:=by kernel_rfl
theorem f61_l1_e (C:OracleJ H) (n:Nat) (D0 B0 E0 F0 G0 N0 Q0 P0 M0 J0 S0 T0 U0 V0 X0 W0 Z0 P1 F1 E1 G1 I1 J1 D1 U1 V1 Q1 R1 W1 S1 X1 Y1 Z1 A2 B2 D2 T1 E2 F2 G2 I2 M1 N1:Value) (m:Nat) (x:Value×Value×Value) (s:St H) (K:Ex→List Value→St H→RsT H) :
 iter (fun t s k=>exec Try.prog false C n 61 none (cdp Try.f61 [1,1,1,1,0,1,0,0,1,1,0,0,1,1,1,1,1,0,0]) t s k) (scratch (cdp Try.f61 [1,1,1,1,0,1,0,0,1,1,0,0,1,1,1,1,1,0,0])) m (f61_l1_m D0 B0 E0 F0 G0 N0 Q0 P0 M0 J0 S0 T0 U0 V0 X0 W0 Z0 P1 F1 E1 G1 I1 J1 D1 U1 V1 Q1 R1 W1 S1 X1 Y1 Z1 A2 B2 D2 T1 E2 F2 G2 I2 M1 N1 x) s K=iterS (f61_l1 (dOps (H:=H) Try.prog) C n M1 N1) (fun i x s=>K (.exit i) (f61_l1_m D0 B0 E0 F0 G0 N0 Q0 P0 M0 J0 S0 T0 U0 V0 X0 W0 Z0 P1 F1 E1 G1 I1 J1 D1 U1 V1 Q1 R1 W1 S1 X1 Y1 Z1 A2 B2 D2 T1 E2 F2 G2 I2 M1 N1 x) s) (fun x s=>K .ret (f61_l1_m D0 B0 E0 F0 G0 N0 Q0 P0 M0 J0 S0 T0 U0 V0 X0 W0 Z0 P1 F1 E1 G1 I1 J1 D1 U1 V1 Q1 R1 W1 S1 X1 Y1 Z1 A2 B2 D2 T1 E2 F2 G2 I2 M1 N1 x) s) m x s :=
   iter_eq (f61_l1_m D0 B0 E0 F0 G0 N0 Q0 P0 M0 J0 S0 T0 U0 V0 X0 W0 Z0 P1 F1 E1 G1 I1 J1 D1 U1 V1 Q1 R1 W1 S1 X1 Y1 Z1 A2 B2 D2 T1 E2 F2 G2 I2 M1 N1) (f61_l1 (dOps (H:=H) Try.prog) C n M1 N1) (fun x s nx K=>f61_l1_b C n D0 B0 E0 F0 G0 N0 Q0 P0 M0 J0 S0 T0 U0 V0 X0 W0 Z0 P1 F1 E1 G1 I1 J1 D1 U1 V1 Q1 R1 W1 S1 X1 Y1 Z1 A2 B2 D2 T1 E2 F2 G2 I2 M1 N1 x s nx K) K m x s
def f61_l0_m (D0 B0 G0 N0 Q0 P0 M0 J0 S0 T0 U0 V0 X0 W0 Z0:Value) (x:Value×Value×Value×Value×Value):List Value:=[D0,undefV,B0,x.1,x.2.1,undefV,x.2.2.1,x.2.2.2.1,undefV,dc,G0,N0,Q0,P0,M0,J0,S0,T0,U0,V0,X0,W0,Z0,x.2.2.2.2,dc,dc,dc,dc,dc,dc,dc,dc,dc,dc,dc,dc,dc,dc,dc,dc,dc,dc,dc,dc,dc,dc,dc,dc,dc,dc,dc,dc,dc,dc,dc,dc,dc,dc,dc,dc,dc,dc,dc,dc,dc,dc,dc,dc,dc,dc,dc,undefV]
noncomputable def f61_l0 (O:Ops H) (C:OracleJ H) (n:Nat) (D0 W0 Z0:Value) (nx:(Value×Value×Value×Value×Value)→St H→RsT H) (kx:Nat→(Value×Value×Value×Value×Value)→St H→RsT H) (kr:(Value×Value×Value×Value×Value)→St H→RsT H) (x:Value×Value×Value×Value×Value) (s:St H):RsT H :=
 (O.bop .lss 3 x.2.2.2.2 Z0).bind fun v18 =>
 (O.boolO v18).bind fun b19=>cond b19 (
 (O.indexAddr 67 W0 x.2.2.2.2).bind fun v20 =>
 (O.load s 70 v20).bind fun v21 =>
 (O.bop .sub 70 v21 x.2.1).bind fun v22 =>
 (oneO C (.fn 72) [x.1,v22] s).bind fun p23 =>
 (O.nilCheck D0).bind fun v24 =>
 (O.fieldAddr 158 v24 0).bind fun v25 =>
 (O.load p23.2 156 v25).bind fun v26 =>
 (O.lookup p23.2 156 v26 v21 false).bind fun v27 =>
 (O.len p23.2 160 v27).bind fun v28 =>
 (O.conv false p23.2 3 70 v28).bind fun p29 =>
 (oneO C (.fn 72) [p23.1,p29.1] p29.2).bind fun p30 =>
 bif (eqO H ((O.conv false s 3 70 v28).map (·.1)) p29.1&&(eqO H ((O.conv false p23.2 3 70 v28).map (·.1)) p29.1&&(true)))&&((eqO H (O.len s 160 v27) v28&&(eqO H (O.len p23.2 160 v27) v28&&(true)))&&((eqO H (O.lookup s 156 v26 v21 false) v27&&(eqO H (O.lookup p23.2 156 v26 v21 false) v27&&(true)))&&((eqO H (O.load s 156 v25) v26&&(eqO H (O.load p23.2 156 v25) v26&&(true)))&&(true)))) then
 (O.nilCheck D0).bind fun v31 =>
 (O.fieldAddr 158 v31 0).bind fun v32 =>
 (O.load p30.2 156 v32).bind fun v33 =>
 (O.lookup p30.2 156 v33 v21 false).bind fun v34 =>
 (O.len p30.2 160 v34).bind fun v35 =>
 iterS (f61_l1 O C n v34 v35 )
 (fun J2 x58 s59=>(bif Nat.beq J2 2 then
 (O.bop .add 3 x.2.2.2.2 (Value.int IntKind.i64 1)).bind fun v64 =>
 nx (x58.1,v21,v21,x58.2.1,v64) s59 else (bif Nat.beq J2 1 then
 (O.bop .add 3 x.2.2.2.2 (Value.int IntKind.i64 1)).bind fun v63 =>
 nx (x58.1,v21,v21,x58.2.1,v63) s59 else kx J2 (x58.1,v21,v21,x58.2.1,x.2.2.2.2) s59)))
 (fun x60 s61=>kr (x60.1,v21,v21,x60.2.1,x.2.2.2.2) s61) n (p30.1,(Value.int IntKind.i64 0),(Value.int IntKind.i64 0)) p30.2
 else none) (
 kx 0 (x.1,x.2.1,x.2.2.1,x.2.2.2.1,x.2.2.2.2) s)
theorem f61_l1_k (C:OracleJ H) (n:Nat) (D0 B0 E0 F0 G0 N0 Q0 P0 M0 J0 S0 T0 U0 V0 X0 W0 Z0 P1 F1 E1 G1 I1 J1 D1 U1 V1 Q1 R1 W1 S1 X1 Y1 Z1 A2 B2 D2 T1 E2 F2 G2 I2 M1 N1:Value) (nx:List Value→St H→RsT H) (K:Ex→List Value→St H→RsT H) (i:Nat) (x:Value×Value×Value) (s:St H):(kBlock 2 (kBlock 1 (kSeq Try.prog false C n 61 none (cdp Try.f61 [1,1,1,1,0,1,0,0,1,1,1]) (kIter (scratch (cdp Try.f61 [1,1,1,1,0,1,0,0])) nx K)))) (.exit i) (f61_l1_m D0 B0 E0 F0 G0 N0 Q0 P0 M0 J0 S0 T0 U0 V0 X0 W0 Z0 P1 F1 E1 G1 I1 J1 D1 U1 V1 Q1 R1 W1 S1 X1 Y1 Z1 A2 B2 D2 T1 E2 F2 G2 I2 M1 N1 x) s =
 (bif Nat.beq i 2 then
 ((dOps (H:=H) Try.prog).bop .add 3 P1 (Value.int IntKind.i64 1)).bind fun v85 =>
 nx (f61_l0_m D0 B0 G0 N0 Q0 P0 M0 J0 S0 T0 U0 V0 X0 W0 Z0 (x.1,E0,F0,x.2.1,v85)) s else (bif Nat.beq i 1 then
 ((dOps (H:=H) Try.prog).bop .add 3 P1 (Value.int IntKind.i64 1)).bind fun v86 =>
 nx (f61_l0_m D0 B0 G0 N0 Q0 P0 M0 J0 S0 T0 U0 V0 X0 W0 Z0 (x.1,E0,F0,x.2.1,v86)) s else K (.exit i) (f61_l0_m D0 B0 G0 N0 Q0 P0 M0 J0 S0 T0 U0 V0 X0 W0 Z0 (x.1,E0,F0,x.2.1,P1)) s)):=by kernel_rfl
theorem f61_l0_b (C:OracleJ H) (n:Nat) (D0 B0 G0 N0 Q0 P0 M0 J0 S0 T0 U0 V0 X0 W0 Z0:Value) (x:Value×Value×Value×Value×Value) (s:St H) (nx:List Value→St H→RsT H) (K:Ex→List Value→St H→RsT H) :
 exec Try.prog false C n 61 none (cdp Try.f61 [1,1,1,1,0,1,0,0]) (f61_l0_m D0 B0 G0 N0 Q0 P0 M0 J0 S0 T0 U0 V0 X0 W0 Z0 x) s (kIter (scratch (cdp Try.f61 [1,1,1,1,0,1,0,0])) nx K)=f61_l0 (dOps (H:=H) Try.prog) C n D0 W0 Z0 (fun x s=>nx (f61_l0_m D0 B0 G0 N0 Q0 P0 M0 J0 S0 T0 U0 V0 X0 W0 Z0 x) s) (fun i x s=>K (.exit i) (f61_l0_m D0 B0 G0 N0 Q0 P0 M0 J0 S0 T0 U0 V0 X0 W0 Z0 x) s) (fun x s=>K .ret (f61_l0_m D0 B0 G0 N0 Q0 P0 M0 J0 S0 T0 U0 V0 X0 W0 Z0 x) s) x s:=by
  have h1:exec Try.prog false C n 61 none (cdp Try.f61 [1,1,1,1,0,1,0,0]) (f61_l0_m D0 B0 G0 N0 Q0 P0 M0 J0 S0 T0 U0 V0 X0 W0 Z0 x) s (kIter (scratch (cdp Try.f61 [1,1,1,1,0,1,0,0])) nx K) =
 ((dOps (H:=H) Try.prog).bop .lss 3 x.2.2.2.2 Z0).bind fun v65 =>
 ((dOps (H:=H) Try.prog).boolO v65).bind fun b66=>cond b66 (
 ((dOps (H:=H) Try.prog).indexAddr 67 W0 x.2.2.2.2).bind fun v67 =>
 ((dOps (H:=H) Try.prog).load s 70 v67).bind fun v68 =>
 ((dOps (H:=H) Try.prog).bop .sub 70 v68 x.2.1).bind fun v69 =>
 (oneO C (.fn 72) [x.1,v69] s).bind fun p70 =>
 ((dOps (H:=H) Try.prog).nilCheck D0).bind fun v71 =>
 ((dOps (H:=H) Try.prog).fieldAddr 158 v71 0).bind fun v72 =>
 ((dOps (H:=H) Try.prog).load p70.2 156 v72).bind fun v73 =>
 ((dOps (H:=H) Try.prog).lookup p70.2 156 v73 v68 false).bind fun v74 =>
 ((dOps (H:=H) Try.prog).len p70.2 160 v74).bind fun v75 =>
 ((dOps (H:=H) Try.prog).conv false p70.2 3 70 v75).bind fun p76 =>
 (oneO C (.fn 72) [p70.1,p76.1] p76.2).bind fun p77 =>
 bif (eqO H (((dOps (H:=H) Try.prog).conv false s 3 70 v75).map (·.1)) p76.1&&(eqO H (((dOps (H:=H) Try.prog).conv false p70.2 3 70 v75).map (·.1)) p76.1&&(true)))&&((eqO H ((dOps (H:=H) Try.prog).len s 160 v74) v75&&(eqO H ((dOps (H:=H) Try.prog).len p70.2 160 v74) v75&&(true)))&&((eqO H ((dOps (H:=H) Try.prog).lookup s 156 v73 v68 false) v74&&(eqO H ((dOps (H:=H) Try.prog).lookup p70.2 156 v73 v68 false) v74&&(true)))&&((eqO H ((dOps (H:=H) Try.prog).load s 156 v72) v73&&(eqO H ((dOps (H:=H) Try.prog).load p70.2 156 v72) v73&&(true)))&&(true)))) then
 ((dOps (H:=H) Try.prog).nilCheck D0).bind fun v78 =>
 ((dOps (H:=H) Try.prog).fieldAddr 158 v78 0).bind fun v79 =>
 ((dOps (H:=H) Try.prog).load p77.2 156 v79).bind fun v80 =>
 ((dOps (H:=H) Try.prog).lookup p77.2 156 v80 v68 false).bind fun v81 =>
 ((dOps (H:=H) Try.prog).len p77.2 160 v81).bind fun v82 =>
 iter (fun t s k=>exec Try.prog false C n 61 none (cdp Try.f61 [1,1,1,1,0,1,0,0,1,1,0,0,1,1,1,1,1,0,0]) t s k) (scratch (cdp Try.f61 [1,1,1,1,0,1,0,0,1,1,0,0,1,1,1,1,1,0,0])) n (f61_l1_m D0 B0 v68 v68 G0 N0 Q0 P0 M0 J0 S0 T0 U0 V0 X0 W0 Z0 x.2.2.2.2 v65 v67 v68 x.1 v68 x.2.1 v69 p70.1 D0 v71 v72 v73 v68 v74 v75 p76.1 p77.1 v68 D0 v78 v79 v80 v68 v81 v82 (p77.1,(Value.int IntKind.i64 0),(Value.int IntKind.i64 0))) p77.2 (kBlock 2 (kBlock 1 (kSeq Try.prog false C n 61 none (cdp Try.f61 [1,1,1,1,0,1,0,0,1,1,1]) (kIter (scratch (cdp Try.f61 [1,1,1,1,0,1,0,0])) nx K))))
 else none) (
 K (.exit 0) (f61_l0_m D0 B0 G0 N0 Q0 P0 M0 J0 S0 T0 U0 V0 X0 W0 Z0 (x.1,x.2.1,x.2.2.1,x.2.2.2.1,x.2.2.2.2)) s):=by kernel_rfl
  rw [h1]
  simp only [f61_l1_e,f61_l1_k]
  show _=f61_l0 (dOps (H:=H) Try.prog) C n D0 W0 Z0 (fun x s=>nx (f61_l0_m D0 B0 G0 N0 Q0 P0 M0 J0 S0 T0 U0 V0 X0 W0 Z0 x) s) (fun i x s=>K (.exit i) (f61_l0_m D0 B0 G0 N0 Q0 P0 M0 J0 S0 T0 U0 V0 X0 W0 Z0 x) s) (fun x s=>K .ret (f61_l0_m D0 B0 G0 N0 Q0 P0 M0 J0 S0 T0 U0 V0 X0 W0 Z0 x) s) x s
  kernel_rfl
theorem f61_l0_e (C:OracleJ H) (n:Nat) (D0 B0 G0 N0 Q0 P0 M0 J0 S0 T0 U0 V0 X0 W0 Z0:Value) (m:Nat) (x:Value×Value×Value×Value×Value) (s:St H) (K:Ex→List Value→St H→RsT H) :
 iter (fun t s k=>exec Try.prog false C n 61 none (cdp Try.f61 [1,1,1,1,0,1,0,0]) t s k) (scratch (cdp Try.f61 [1,1,1,1,0,1,0,0])) m (f61_l0_m D0 B0 G0 N0 Q0 P0 M0 J0 S0 T0 U0 V0 X0 W0 Z0 x) s K=iterS (f61_l0 (dOps (H:=H) Try.prog) C n D0 W0 Z0) (fun i x s=>K (.exit i) (f61_l0_m D0 B0 G0 N0 Q0 P0 M0 J0 S0 T0 U0 V0 X0 W0 Z0 x) s) (fun x s=>K .ret (f61_l0_m D0 B0 G0 N0 Q0 P0 M0 J0 S0 T0 U0 V0 X0 W0 Z0 x) s) m x s :=
   iter_eq (f61_l0_m D0 B0 G0 N0 Q0 P0 M0 J0 S0 T0 U0 V0 X0 W0 Z0) (f61_l0 (dOps (H:=H) Try.prog) C n D0 W0 Z0) (fun x s nx K=>f61_l0_b C n D0 B0 G0 N0 Q0 P0 M0 J0 S0 T0 U0 V0 X0 W0 Z0 x s nx K) K m x s
noncomputable def f61 (O:Ops H) (C:OracleJ H) (n:Nat) (a0:Value) (s:St H):RsT H :=
 (C (.fn 101) [a0] s).bind fun L1=>manyK L1 fun v2 s3 =>
 (O.uop .not v2).bind fun v4 =>
 (O.boolO v4).bind fun b5=>cond b5 (
 some [((fzV 2 #[]),s3)]) (
 (O.nilCheck a0).bind fun v6 =>
 (O.fieldAddr 158 v6 0).bind fun v7 =>
 (O.load s3 156 v7).bind fun v8 =>
 (O.len s3 156 v8).bind fun v9 =>
 (O.conv false s3 3 70 v9).bind fun p10 =>
 (C (.fn 72) [(fzV 2 #[]),p10.1] p10.2).bind fun L11=>manyK L11 fun v12 s13 =>
 (C (.fn 109) [a0] s13).bind fun L14=>manyK L14 fun v15 s16 =>
 (O.len s16 67 v15).bind fun v17 =>
 iterS (f61_l0 O C n a0 v15 v17 )
 (fun Q2 x88 s89=>(bif Nat.beq Q2 0 then
 some [(x88.1,s89)] else none))
 (fun x90 s91=>some [((fzV 2 #[]),s91)]) n (v12,(Value.int IntKind.u64 0),undefV,undefV,(Value.int IntKind.i64 0)) s16)
theorem f61_l0_k (C:OracleJ H) (n:Nat) (D0 B0 G0 N0 Q0 P0 M0 J0 S0 T0 U0 V0 X0 W0 Z0:Value) (i:Nat) (x:Value×Value×Value×Value×Value) (s:St H):(kBlock 0 (kSeq Try.prog false C n 61 none (cdp Try.f61 [1,1,1,1,1]) (kFun Try.prog Try.f61))) (.exit i) (f61_l0_m D0 B0 G0 N0 Q0 P0 M0 J0 S0 T0 U0 V0 X0 W0 Z0 x) s =
 (bif Nat.beq i 0 then
 some [(x.1,s)] else none):=by kernel_rfl
theorem f61_r (C:OracleJ H) (n:Nat) (a0:Value) (s:St H):bodyD Try.prog false C n 61 Try.f61 [a0] s=f61 (dOps (H:=H) Try.prog) C n a0 s:=by
  have h1:bodyD Try.prog false C n 61 Try.f61 [a0] s =
 (C (.fn 101) [a0] s).bind fun L92=>manyK L92 fun v93 s94 =>
 ((dOps (H:=H) Try.prog).uop .not v93).bind fun v95 =>
 ((dOps (H:=H) Try.prog).boolO v95).bind fun b96=>cond b96 (
 some [((fzV 2 #[]),s94)]) (
 ((dOps (H:=H) Try.prog).nilCheck a0).bind fun v97 =>
 ((dOps (H:=H) Try.prog).fieldAddr 158 v97 0).bind fun v98 =>
 ((dOps (H:=H) Try.prog).load s94 156 v98).bind fun v99 =>
 ((dOps (H:=H) Try.prog).len s94 156 v99).bind fun v100 =>
 ((dOps (H:=H) Try.prog).conv false s94 3 70 v100).bind fun p101 =>
 (C (.fn 72) [(fzV 2 #[]),p101.1] p101.2).bind fun L102=>manyK L102 fun v103 s104 =>
 (C (.fn 109) [a0] s104).bind fun L105=>manyK L105 fun v106 s107 =>
 ((dOps (H:=H) Try.prog).len s107 67 v106).bind fun v108 =>
 iter (fun t s k=>exec Try.prog false C n 61 none (cdp Try.f61 [1,1,1,1,0,1,0,0]) t s k) (scratch (cdp Try.f61 [1,1,1,1,0,1,0,0])) n (f61_l0_m a0 (fzV 2 #[]) a0 v93 v95 a0 v97 v98 v99 v100 p101.1 v103 a0 v106 v108 (v103,(Value.int IntKind.u64 0),undefV,undefV,(Value.int IntKind.i64 0))) s107 (kBlock 0 (kSeq Try.prog false C n 61 none (cdp Try.f61 [1,1,1,1,1]) (kFun Try.prog Try.f61)))):=by kernel_rfl
  rw [h1]
  simp only [f61_l0_e,f61_l0_k]
  show _=f61 (dOps (H:=H) Try.prog) C n a0 s
  kernel_rfl
def f62_l0_m (D0 A0 B1 Y0 R0 G0 M0 J0 S0 T0 U0 V0 X0 W0 Z0 F1 E1 G1 I1 J1 D1:Value) (x:Value×Value×Value×Value×Value×Value×Value):List Value:=[D0,A0,undefV,undefV,x.1,x.2.1,x.2.2.1,B1,Y0,R0,G0,x.2.2.2.1,x.2.2.2.2.1,x.2.2.2.2.2.1,M0,J0,S0,T0,U0,V0,X0,W0,Z0,undefV,F1,E1,G1,I1,J1,D1,x.2.2.2.2.2.2,dc,dc,dc,dc,dc,dc,dc,dc,dc,dc,dc,dc,dc,dc,dc,dc,dc,dc,dc,dc,dc,dc,dc,dc,dc,dc,dc,dc,dc,dc,dc,dc,dc,dc,dc,dc,dc,dc,dc,dc,dc,dc,dc,dc,dc,dc,undefV,undefV,undefV,undefV,undefV]
noncomputable def f62_l0 (O:Ops H) (C:OracleJ H) (n:Nat) (R0 G0 D1:Value) (nx:(Value×Value×Value×Value×Value×Value×Value)→St H→RsT H) (kx:Nat→(Value×Value×Value×Value×Value×Value×Value)→St H→RsT H) (kr:(Value×Value×Value×Value×Value×Value×Value)→St H→RsT H) (x:Value×Value×Value×Value×Value×Value×Value) (s:St H):RsT H :=
 (O.bop .lss 70 x.2.2.2.2.2.2 D1).bind fun v14 =>
 (O.boolO v14).bind fun b15=>cond b15 (
 (C (.fn 111) [G0] s).bind fun L16=>manyK L16 fun v17 s18 =>
 (O.extract v17 0).bind fun v19 =>
 (O.extract v17 1).bind fun v20 =>
 jn (fun (j452_51:Value) (js452:St H) =>
 (O.boolO j452_51).bind fun b52=>cond b52 (
 (O.nilCheck G0).bind fun v53 =>
 (O.fieldAddr 176 v53 2).bind fun v54 =>
 (O.load js452 26 v54).bind fun v55 =>
 kr ((Go.Value.pointer none),(Value.int IntKind.i64 0),v55,x.2.2.2.1,v19,v20,x.2.2.2.2.2.2) js452) (
 (O.bop .add 70 x.2.2.2.1 v19).bind fun v56 =>
 (O.nilCheck R0).bind fun v57 =>
 (O.fieldAddr 158 v57 0).bind fun v58 =>
 (O.load js452 156 v58).bind fun v59 =>
 (oneO C (.fn 113) [G0,v20] js452).bind fun p60 =>
 (O.mapUpdate p60.2 156 v59 v56 p60.1).bind fun s61 =>
 bif (eqO H (O.load js452 156 v58) v59&&(eqO H (O.load p60.2 156 v58) v59&&(true)))&&(true) then
 (O.nilCheck G0).bind fun v62 =>
 (O.fieldAddr 176 v62 2).bind fun v63 =>
 (O.load s61 26 v63).bind fun v64 =>
 (O.bop .neq 26 v64 (Value.int IntKind.i64 0)).bind fun v65 =>
 (O.boolO v65).bind fun b66=>cond b66 (
 (O.nilCheck G0).bind fun v67 =>
 (O.fieldAddr 176 v67 2).bind fun v68 =>
 (O.load s61 26 v68).bind fun v69 =>
 kr ((Go.Value.pointer none),(Value.int IntKind.i64 0),v69,v56,v19,v20,x.2.2.2.2.2.2) s61) (
 (O.bop .add 70 x.2.2.2.2.2.2 (Value.int IntKind.u64 1)).bind fun v70 =>
 nx (x.1,x.2.1,x.2.2.1,v56,v19,v20,v70) s61)
 else none)) fun k452 =>
 (O.bop .eql 70 v19 (Value.int IntKind.u64 0)).bind fun v21 =>
 gd v21 (
 (C (.fn 112) [G0,(.bool true)] s18).bind fun L22=>manyK L22 fun v23 s24 =>
 k452 v23 s24) (
 (O.bop .add 70 x.2.2.2.1 v19).bind fun v25 =>
 (O.bop .lss 70 v25 x.2.2.2.1).bind fun v26 =>
 gd v26 (
 (C (.fn 112) [G0,(.bool true)] s18).bind fun L27=>manyK L27 fun v28 s29 =>
 k452 v28 s29) (
 (O.bop .eql 70 v20 (Value.int IntKind.u64 0)).bind fun v30 =>
 (C (.fn 112) [G0,v30] s18).bind fun L31=>manyK L31 fun v32 s33 =>
 k452 v32 s33) (
 none)) (
 none)) (
 kx 0 (x.1,x.2.1,x.2.2.1,x.2.2.2.1,x.2.2.2.2.1,x.2.2.2.2.2.1,x.2.2.2.2.2.2) s)
theorem f62_l0_b (C:OracleJ H) (n:Nat) (D0 A0 B1 Y0 R0 G0 M0 J0 S0 T0 U0 V0 X0 W0 Z0 F1 E1 G1 I1 J1 D1:Value) (x:Value×Value×Value×Value×Value×Value×Value) (s:St H) (nx:List Value→St H→RsT H) (K:Ex→List Value→St H→RsT H) :
 exec Try.prog false C n 62 none (cdp Try.f62 [1,1,1,1,1,0,1,0,0]) (f62_l0_m D0 A0 B1 Y0 R0 G0 M0 J0 S0 T0 U0 V0 X0 W0 Z0 F1 E1 G1 I1 J1 D1 x) s (kIter (scratch (cdp Try.f62 [1,1,1,1,1,0,1,0,0])) nx K)=f62_l0 (dOps (H:=H) Try.prog) C n R0 G0 D1 (fun x s=>nx (f62_l0_m D0 A0 B1 Y0 R0 G0 M0 J0 S0 T0 U0 V0 X0 W0 Z0 F1 E1 G1 I1 J1 D1 x) s) (fun i x s=>K (.exit i) (f62_l0_m D0 A0 B1 Y0 R0 G0 M0 J0 S0 T0 U0 V0 X0 W0 Z0 F1 E1 G1 I1 J1 D1 x) s) (fun x s=>K .ret (f62_l0_m D0 A0 B1 Y0 R0 G0 M0 J0 S0 T0 U0 V0 X0 W0 Z0 F1 E1 G1 I1 J1 D1 x) s) x s:=by kernel_rfl
theorem f62_l0_e (C:OracleJ H) (n:Nat) (D0 A0 B1 Y0 R0 G0 M0 J0 S0 T0 U0 V0 X0 W0 Z0 F1 E1 G1 I1 J1 D1:Value) (m:Nat) (x:Value×Value×Value×Value×Value×Value×Value) (s:St H) (K:Ex→List Value→St H→RsT H) :
 iter (fun t s k=>exec Try.prog false C n 62 none (cdp Try.f62 [1,1,1,1,1,0,1,0,0]) t s k) (scratch (cdp Try.f62 [1,1,1,1,1,0,1,0,0])) m (f62_l0_m D0 A0 B1 Y0 R0 G0 M0 J0 S0 T0 U0 V0 X0 W0 Z0 F1 E1 G1 I1 J1 D1 x) s K=iterS (f62_l0 (dOps (H:=H) Try.prog) C n R0 G0 D1) (fun i x s=>K (.exit i) (f62_l0_m D0 A0 B1 Y0 R0 G0 M0 J0 S0 T0 U0 V0 X0 W0 Z0 F1 E1 G1 I1 J1 D1 x) s) (fun x s=>K .ret (f62_l0_m D0 A0 B1 Y0 R0 G0 M0 J0 S0 T0 U0 V0 X0 W0 Z0 F1 E1 G1 I1 J1 D1 x) s) m x s :=
   iter_eq (f62_l0_m D0 A0 B1 Y0 R0 G0 M0 J0 S0 T0 U0 V0 X0 W0 Z0 F1 E1 G1 I1 J1 D1) (f62_l0 (dOps (H:=H) Try.prog) C n R0 G0 D1) (fun x s nx K=>f62_l0_b C n D0 A0 B1 Y0 R0 G0 M0 J0 S0 T0 U0 V0 X0 W0 Z0 F1 E1 G1 I1 J1 D1 x s nx K) K m x s
noncomputable def f62 (O:Ops H) (C:OracleJ H) (n:Nat) (a0 a1:Value) (s:St H):RsT H :=
 (C (.fn 74) [a0,a1] s).bind fun L1=>manyK L1 fun v2 s3 =>
 (O.extract v2 0).bind fun v4 =>
 (O.extract v2 1).bind fun v5 =>
 (O.extract v2 2).bind fun v6 =>
 (O.bop .neq 26 v6 (Value.int IntKind.i64 0)).bind fun v7 =>
 (O.boolO v7).bind fun b8=>cond b8 (
 some [(.tuple #[(Go.Value.pointer none),(Value.int IntKind.i64 0),v6],s3)]) (
 (C (.fn 46) [] s3).bind fun L9=>manyK L9 fun v10 s11 =>
 (O.build 176 [(0,a0),(1,v5)]).bind fun v12 =>
 (O.box s11 v12).bind fun p13 =>
 iterS (f62_l0 O C n v10 p13.1 v4 )
 (fun P2 x72 s73=>(bif Nat.beq P2 0 then
 (O.nilCheck p13.1).bind fun v76 =>
 (O.fieldAddr 176 v76 1).bind fun v77 =>
 (O.load s73 3 v77).bind fun v78 =>
 some [(.tuple #[v10,v78,(Value.int IntKind.i64 0)],s73)] else none))
 (fun x74 s75=>some [(.tuple #[x74.1,x74.2.1,x74.2.2.1],s75)]) n ((Go.Value.pointer none),(Value.int IntKind.i64 0),(Value.int IntKind.i64 0),(Value.int IntKind.u64 0),undefV,undefV,(Value.int IntKind.u64 0)) p13.2)
theorem f62_l0_k (C:OracleJ H) (n:Nat) (D0 A0 B1 Y0 R0 G0 M0 J0 S0 T0 U0 V0 X0 W0 Z0 F1 E1 G1 I1 J1 D1:Value) (i:Nat) (x:Value×Value×Value×Value×Value×Value×Value) (s:St H):(kBlock 0 (kSeq Try.prog false C n 62 none (cdp Try.f62 [1,1,1,1,1,1]) (kFun Try.prog Try.f62))) (.exit i) (f62_l0_m D0 A0 B1 Y0 R0 G0 M0 J0 S0 T0 U0 V0 X0 W0 Z0 F1 E1 G1 I1 J1 D1 x) s =
 (bif Nat.beq i 0 then
 ((dOps (H:=H) Try.prog).nilCheck G0).bind fun v95 =>
 ((dOps (H:=H) Try.prog).fieldAddr 176 v95 1).bind fun v96 =>
 ((dOps (H:=H) Try.prog).load s 3 v96).bind fun v97 =>
 some [(.tuple #[R0,v97,(Value.int IntKind.i64 0)],s)] else none):=by kernel_rfl
theorem f62_r (C:OracleJ H) (n:Nat) (a0 a1:Value) (s:St H):bodyD Try.prog false C n 62 Try.f62 [a0,a1] s=f62 (dOps (H:=H) Try.prog) C n a0 a1 s:=by
  have h1:bodyD Try.prog false C n 62 Try.f62 [a0,a1] s =
 (C (.fn 74) [a0,a1] s).bind fun L79=>manyK L79 fun v80 s81 =>
 ((dOps (H:=H) Try.prog).extract v80 0).bind fun v82 =>
 ((dOps (H:=H) Try.prog).extract v80 1).bind fun v83 =>
 ((dOps (H:=H) Try.prog).extract v80 2).bind fun v84 =>
 ((dOps (H:=H) Try.prog).bop .neq 26 v84 (Value.int IntKind.i64 0)).bind fun v85 =>
 ((dOps (H:=H) Try.prog).boolO v85).bind fun b86=>cond b86 (
 some [(.tuple #[(Go.Value.pointer none),(Value.int IntKind.i64 0),v84],s81)]) (
 (C (.fn 46) [] s81).bind fun L87=>manyK L87 fun v88 s89 =>
 ((dOps (H:=H) Try.prog).build 176 [(0,a0),(1,v83)]).bind fun v90 =>
 ((dOps (H:=H) Try.prog).box s89 v90).bind fun p91 =>
 iter (fun t s k=>exec Try.prog false C n 62 none (cdp Try.f62 [1,1,1,1,1,0,1,0,0]) t s k) (scratch (cdp Try.f62 [1,1,1,1,1,0,1,0,0])) n (f62_l0_m a0 v83 v82 v84 v88 p91.1 v80 a0 a1 v80 v82 v83 v84 v84 v85 v88 a0 v83 v90 p91.1 v82 ((Go.Value.pointer none),(Value.int IntKind.i64 0),(Value.int IntKind.i64 0),(Value.int IntKind.u64 0),undefV,undefV,(Value.int IntKind.u64 0))) p91.2 (kBlock 0 (kSeq Try.prog false C n 62 none (cdp Try.f62 [1,1,1,1,1,1]) (kFun Try.prog Try.f62)))):=by kernel_rfl
  rw [h1]
  simp only [f62_l0_e,f62_l0_k]
  show _=f62 (dOps (H:=H) Try.prog) C n a0 a1 s
  kernel_rfl
noncomputable def f72 (O:Ops H) (C:OracleJ H) (n:Nat) (a0 a1:Value) (s:St H):RsT H :=
 (C (.fn 123) [a0,a1,(.func (.func 124) #[] #[])] s).bind fun L1=>manyK L1 fun v2 s3 =>
 some [(v2,s3)]
theorem f72_r (C:OracleJ H) (n:Nat) (a0 a1:Value) (s:St H):bodyD Try.prog false C n 72 Try.f72 [a0,a1] s=f72 (dOps (H:=H) Try.prog) C n a0 a1 s:=by kernel_rfl
def f74_l0_m (D0 A0 G0 N0 P0 M0 J0 S0 T0 U0 V0 X0 W0:Value) (x:Value×Value×Value×Value×Value×Value×Value×Value):List Value:=[D0,A0,undefV,undefV,x.1,x.2.1,x.2.2.1,x.2.2.2.1,x.2.2.2.2.1,x.2.2.2.2.2.1,G0,N0,(.bool false),P0,M0,J0,S0,T0,U0,V0,X0,W0,x.2.2.2.2.2.2.1,dc,dc,dc,dc,x.2.2.2.2.2.2.2,dc,dc,dc,dc,dc,dc,dc,dc,dc,dc,dc,dc,dc,dc,dc,dc,dc,dc,dc,dc,dc,dc,dc,dc,dc,dc,dc,dc]
noncomputable def f74_l0 (O:Ops H) (C:OracleJ H) (n:Nat) (A0 X0 W0:Value) (nx:(Value×Value×Value×Value×Value×Value×Value×Value)→St H→RsT H) (kx:Nat→(Value×Value×Value×Value×Value×Value×Value×Value)→St H→RsT H) (kr:(Value×Value×Value×Value×Value×Value×Value×Value)→St H→RsT H) (x:Value×Value×Value×Value×Value×Value×Value×Value) (s:St H):RsT H :=
 (O.bop .lss 3 x.2.2.2.2.2.2.1 W0).bind fun v9 =>
 (O.boolO v9).bind fun b10=>cond b10 (
 (O.indexAddr 35 X0 x.2.2.2.2.2.2.1).bind fun v11 =>
 (O.load s 5 v11).bind fun v12 =>
 jn (fun (j496_27:Value) =>
 jn (fun (j503_27:Value) =>
 (O.boolO j503_27).bind fun b24=>cond b24 (
 kr ((Value.int IntKind.u64 0),(Value.int IntKind.i64 0),(Value.int IntKind.i64 10),x.2.2.2.1,x.2.2.2.2.2.2.1,v12,x.2.2.2.2.2.2.1,j503_27) s) (
 (O.bop .and 5 v12 (Value.int IntKind.u8 127)).bind fun v25 =>
 (O.conv false s 5 70 v25).bind fun p26 =>
 (O.bop .mul 3 (Value.int IntKind.i64 7) x.2.2.2.2.2.2.1).bind fun v27 =>
 (O.bop .shl 70 p26.1 v27).bind fun v28 =>
 (O.bop .or 70 x.2.2.2.1 v28).bind fun v29 =>
 (O.bop .lss 5 v12 (Value.int IntKind.u8 128)).bind fun v30 =>
 (O.boolO v30).bind fun b31=>cond b31 (
 (O.bop .add 3 A0 x.2.2.2.2.2.2.1).bind fun v32 =>
 (O.bop .add 3 v32 (Value.int IntKind.i64 1)).bind fun v33 =>
 kr (v29,v33,(Value.int IntKind.i64 0),v29,x.2.2.2.2.2.2.1,v12,x.2.2.2.2.2.2.1,j503_27) p26.2) (
 (O.bop .add 3 x.2.2.2.2.2.2.1 (Value.int IntKind.i64 1)).bind fun v34 =>
 nx (x.1,x.2.1,x.2.2.1,v29,x.2.2.2.2.2.2.1,v12,v34,j503_27) p26.2))) fun k503 =>
 (O.boolO j496_27).bind fun b20=>cond b20 (
 k503 j496_27) (
 jn (fun (j504_27:Value) =>
 k503 j504_27) fun k504 =>
 (O.bop .gtr 3 x.2.2.2.2.2.2.1 (Value.int IntKind.i64 0)).bind fun v21 =>
 gd v21 (
 (O.bop .eql 5 v12 (Value.int IntKind.u8 0)).bind fun v22 =>
 k504 v22) (
 k504 (.bool false)) (
 none))) fun k496 =>
 (O.bop .eql 3 x.2.2.2.2.2.2.1 (Value.int IntKind.i64 9)).bind fun v13 =>
 gd v13 (
 (O.bop .gtr 5 v12 (Value.int IntKind.u8 1)).bind fun v14 =>
 k496 v14) (
 k496 (.bool false)) (
 none)) (
 kx 0 (x.1,x.2.1,x.2.2.1,x.2.2.2.1,x.2.2.2.2.1,x.2.2.2.2.2.1,x.2.2.2.2.2.2.1,x.2.2.2.2.2.2.2) s)
theorem f74_l0_b (C:OracleJ H) (n:Nat) (D0 A0 G0 N0 P0 M0 J0 S0 T0 U0 V0 X0 W0:Value) (x:Value×Value×Value×Value×Value×Value×Value×Value) (s:St H) (nx:List Value→St H→RsT H) (K:Ex→List Value→St H→RsT H) :
 exec Try.prog false C n 74 none (cdp Try.f74 [1,1,1,0,1,0,0]) (f74_l0_m D0 A0 G0 N0 P0 M0 J0 S0 T0 U0 V0 X0 W0 x) s (kIter (scratch (cdp Try.f74 [1,1,1,0,1,0,0])) nx K)=f74_l0 (dOps (H:=H) Try.prog) C n A0 X0 W0 (fun x s=>nx (f74_l0_m D0 A0 G0 N0 P0 M0 J0 S0 T0 U0 V0 X0 W0 x) s) (fun i x s=>K (.exit i) (f74_l0_m D0 A0 G0 N0 P0 M0 J0 S0 T0 U0 V0 X0 W0 x) s) (fun x s=>K .ret (f74_l0_m D0 A0 G0 N0 P0 M0 J0 S0 T0 U0 V0 X0 W0 x) s) x s:=by kernel_rfl
theorem f74_l0_e (C:OracleJ H) (n:Nat) (D0 A0 G0 N0 P0 M0 J0 S0 T0 U0 V0 X0 W0:Value) (m:Nat) (x:Value×Value×Value×Value×Value×Value×Value×Value) (s:St H) (K:Ex→List Value→St H→RsT H) :
 iter (fun t s k=>exec Try.prog false C n 74 none (cdp Try.f74 [1,1,1,0,1,0,0]) t s k) (scratch (cdp Try.f74 [1,1,1,0,1,0,0])) m (f74_l0_m D0 A0 G0 N0 P0 M0 J0 S0 T0 U0 V0 X0 W0 x) s K=iterS (f74_l0 (dOps (H:=H) Try.prog) C n A0 X0 W0) (fun i x s=>K (.exit i) (f74_l0_m D0 A0 G0 N0 P0 M0 J0 S0 T0 U0 V0 X0 W0 x) s) (fun x s=>K .ret (f74_l0_m D0 A0 G0 N0 P0 M0 J0 S0 T0 U0 V0 X0 W0 x) s) m x s :=
   iter_eq (f74_l0_m D0 A0 G0 N0 P0 M0 J0 S0 T0 U0 V0 X0 W0) (f74_l0 (dOps (H:=H) Try.prog) C n A0 X0 W0) (fun x s nx K=>f74_l0_b C n D0 A0 G0 N0 P0 M0 J0 S0 T0 U0 V0 X0 W0 x s nx K) K m x s
noncomputable def f74 (O:Ops H) (C:OracleJ H) (n:Nat) (a0 a1:Value) (s:St H):RsT H :=
 (O.bop .lss 3 a1 (Value.int IntKind.i64 0)).bind fun v1 =>
 gd v1 (
 some [(.tuple #[(Value.int IntKind.u64 0),(Value.int IntKind.i64 0),(Value.int IntKind.i64 2)],s)]) (
 (O.len s 35 a0).bind fun v2 =>
 (O.bop .gtr 3 a1 v2).bind fun v3 =>
 (O.boolO v3).bind fun b6=>cond b6 (
 some [(.tuple #[(Value.int IntKind.u64 0),(Value.int IntKind.i64 0),(Value.int IntKind.i64 2)],s)]) (
 (O.slc s 35 a0 (some a1) none none).bind fun v7 =>
 (O.len s 35 v7).bind fun v8 =>
 iterS (f74_l0 O C n a1 v7 v8 )
 (fun S1 x36 s37=>(bif Nat.beq S1 0 then
 some [(.tuple #[(Value.int IntKind.u64 0),(Value.int IntKind.i64 0),(Value.int IntKind.i64 7)],s37)] else none))
 (fun x38 s39=>some [(.tuple #[x38.1,x38.2.1,x38.2.2.1],s39)]) n ((Value.int IntKind.u64 0),(Value.int IntKind.i64 0),(Value.int IntKind.i64 0),(Value.int IntKind.u64 0),undefV,undefV,(Value.int IntKind.i64 0),undefV) s)) (
 none)
theorem f74_l0_k (C:OracleJ H) (n:Nat) (D0 A0 G0 N0 P0 M0 J0 S0 T0 U0 V0 X0 W0:Value) (i:Nat) (x:Value×Value×Value×Value×Value×Value×Value×Value) (s:St H):(kBlock 0 (kSeq Try.prog false C n 74 none (cdp Try.f74 [1,1,1,1]) (kFun Try.prog Try.f74))) (.exit i) (f74_l0_m D0 A0 G0 N0 P0 M0 J0 S0 T0 U0 V0 X0 W0 x) s =
 (bif Nat.beq i 0 then
 some [(.tuple #[(Value.int IntKind.u64 0),(Value.int IntKind.i64 0),(Value.int IntKind.i64 7)],s)] else none):=by kernel_rfl
theorem f74_r (C:OracleJ H) (n:Nat) (a0 a1:Value) (s:St H):bodyD Try.prog false C n 74 Try.f74 [a0,a1] s=f74 (dOps (H:=H) Try.prog) C n a0 a1 s:=by
  have h1:bodyD Try.prog false C n 74 Try.f74 [a0,a1] s =
 ((dOps (H:=H) Try.prog).bop .lss 3 a1 (Value.int IntKind.i64 0)).bind fun v40 =>
 gd v40 (
 some [(.tuple #[(Value.int IntKind.u64 0),(Value.int IntKind.i64 0),(Value.int IntKind.i64 2)],s)]) (
 ((dOps (H:=H) Try.prog).len s 35 a0).bind fun v41 =>
 ((dOps (H:=H) Try.prog).bop .gtr 3 a1 v41).bind fun v42 =>
 ((dOps (H:=H) Try.prog).boolO v42).bind fun b45=>cond b45 (
 some [(.tuple #[(Value.int IntKind.u64 0),(Value.int IntKind.i64 0),(Value.int IntKind.i64 2)],s)]) (
 ((dOps (H:=H) Try.prog).slc s 35 a0 (some a1) none none).bind fun v46 =>
 ((dOps (H:=H) Try.prog).len s 35 v46).bind fun v47 =>
 iter (fun t s k=>exec Try.prog false C n 74 none (cdp Try.f74 [1,1,1,0,1,0,0]) t s k) (scratch (cdp Try.f74 [1,1,1,0,1,0,0])) n (f74_l0_m a0 a1 a1 v40 a1 a0 v41 v42 v42 a0 a1 v46 v47 ((Value.int IntKind.u64 0),(Value.int IntKind.i64 0),(Value.int IntKind.i64 0),(Value.int IntKind.u64 0),undefV,undefV,(Value.int IntKind.i64 0),undefV)) s (kBlock 0 (kSeq Try.prog false C n 74 none (cdp Try.f74 [1,1,1,1]) (kFun Try.prog Try.f74))))) (
 none):=by kernel_rfl
  rw [h1]
  simp only [f74_l0_e,f74_l0_k]
  show _=f74 (dOps (H:=H) Try.prog) C n a0 a1 s
  kernel_rfl
noncomputable def f101 (O:Ops H) (C:OracleJ H) (n:Nat) (a0:Value) (s:St H):RsT H :=
 (O.bop .neq 81 a0 (Go.Value.pointer none)).bind fun v1 =>
 gd v1 (
 (O.nilCheck a0).bind fun v2 =>
 (O.fieldAddr 158 v2 0).bind fun v3 =>
 (O.load s 156 v3).bind fun v4 =>
 (O.bop .neq 156 v4 (Go.Value.map none)).bind fun v5 =>
 some [(v5,s)]) (
 some [((.bool false),s)]) (
 none)
theorem f101_r (C:OracleJ H) (n:Nat) (a0:Value) (s:St H):bodyD Try.prog false C n 101 Try.f101 [a0] s=f101 (dOps (H:=H) Try.prog) C n a0 s:=by kernel_rfl
def f102_l0_m (D0 A0 B0 Y0 R0:Value) (x:Value×Value×Value×Value):List Value:=[D0,A0,B0,undefV,x.1,x.2.1,undefV,x.2.2.1,Y0,R0,x.2.2.2,dc,dc,dc,dc,dc,dc,dc,dc,undefV,undefV,undefV,undefV,undefV,undefV,undefV,undefV,undefV,undefV,undefV,undefV,undefV,undefV,undefV]
noncomputable def f102_l0 (O:Ops H) (C:OracleJ H) (n:Nat) (Y0 R0:Value) (nx:(Value×Value×Value×Value)→St H→RsT H) (kx:Nat→(Value×Value×Value×Value)→St H→RsT H) (kr:(Value×Value×Value×Value)→St H→RsT H) (x:Value×Value×Value×Value) (s:St H):RsT H :=
 (O.bop .lss 3 x.2.2.2 R0).bind fun v3 =>
 (O.boolO v3).bind fun b4=>cond b4 (
 (O.indexAddr 67 Y0 x.2.2.2).bind fun v5 =>
 (O.load s 70 v5).bind fun v6 =>
 (O.bop .leq 70 v6 x.2.1).bind fun v7 =>
 (O.boolO v7).bind fun b8=>cond b8 (
 kr ((.bool false),x.2.1,v6,x.2.2.2) s) (
 (O.bop .add 3 x.2.2.2 (Value.int IntKind.i64 1)).bind fun v9 =>
 nx (x.1,v6,v6,v9) s)) (
 kx 0 (x.1,x.2.1,x.2.2.1,x.2.2.2) s)
theorem f102_l0_b (C:OracleJ H) (n:Nat) (D0 A0 B0 Y0 R0:Value) (x:Value×Value×Value×Value) (s:St H) (nx:List Value→St H→RsT H) (K:Ex→List Value→St H→RsT H) :
 exec Try.prog false C n 102 none (cdp Try.f102 [1,1,0,1,0,0]) (f102_l0_m D0 A0 B0 Y0 R0 x) s (kIter (scratch (cdp Try.f102 [1,1,0,1,0,0])) nx K)=f102_l0 (dOps (H:=H) Try.prog) C n Y0 R0 (fun x s=>nx (f102_l0_m D0 A0 B0 Y0 R0 x) s) (fun i x s=>K (.exit i) (f102_l0_m D0 A0 B0 Y0 R0 x) s) (fun x s=>K .ret (f102_l0_m D0 A0 B0 Y0 R0 x) s) x s:=by kernel_rfl
theorem f102_l0_e (C:OracleJ H) (n:Nat) (D0 A0 B0 Y0 R0:Value) (m:Nat) (x:Value×Value×Value×Value) (s:St H) (K:Ex→List Value→St H→RsT H) :
 iter (fun t s k=>exec Try.prog false C n 102 none (cdp Try.f102 [1,1,0,1,0,0]) t s k) (scratch (cdp Try.f102 [1,1,0,1,0,0])) m (f102_l0_m D0 A0 B0 Y0 R0 x) s K=iterS (f102_l0 (dOps (H:=H) Try.prog) C n Y0 R0) (fun i x s=>K (.exit i) (f102_l0_m D0 A0 B0 Y0 R0 x) s) (fun x s=>K .ret (f102_l0_m D0 A0 B0 Y0 R0 x) s) m x s :=
   iter_eq (f102_l0_m D0 A0 B0 Y0 R0) (f102_l0 (dOps (H:=H) Try.prog) C n Y0 R0) (fun x s nx K=>f102_l0_b C n D0 A0 B0 Y0 R0 x s nx K) K m x s
noncomputable def f102 (O:Ops H) (C:OracleJ H) (n:Nat) (a0 a1:Value) (s:St H):RsT H :=
 (O.box s a0).bind fun p1 =>
 (O.len p1.2 67 a1).bind fun v2 =>
 iterS (f102_l0 O C n a1 v2 )
 (fun G0 x11 s12=>(bif Nat.beq G0 0 then
 (O.fieldAddr 69 p1.1 0).bind fun v15 =>
 (O.load s12 3 v15).bind fun v16 =>
 (O.bop .geq 3 v16 (Value.int IntKind.i64 0)).bind fun v17 =>
 gd v17 (
 (O.fieldAddr 69 p1.1 0).bind fun v18 =>
 (O.load s12 3 v18).bind fun v19 =>
 (O.fieldAddr 69 p1.1 1).bind fun v20 =>
 (O.load s12 3 v20).bind fun v21 =>
 (O.bop .leq 3 v19 v21).bind fun v22 =>
 gd v22 (
 (O.fieldAddr 69 p1.1 1).bind fun v23 =>
 (O.load s12 3 v23).bind fun v24 =>
 (O.bop .leq 3 v24 (Value.int IntKind.i64 35184372088832)).bind fun v25 =>
 some [(v25,s12)]) (
 some [((.bool false),s12)]) (
 none)) (
 some [((.bool false),s12)]) (
 none) else none))
 (fun x13 s14=>some [(x13.1,s14)]) n ((.bool false),(Value.int IntKind.u64 0),undefV,(Value.int IntKind.i64 0)) p1.2
theorem f102_l0_k (C:OracleJ H) (n:Nat) (D0 A0 B0 Y0 R0:Value) (i:Nat) (x:Value×Value×Value×Value) (s:St H):(kBlock 0 (kSeq Try.prog false C n 102 none (cdp Try.f102 [1,1,1]) (kFun Try.prog Try.f102))) (.exit i) (f102_l0_m D0 A0 B0 Y0 R0 x) s =
 (bif Nat.beq i 0 then
 ((dOps (H:=H) Try.prog).fieldAddr 69 B0 0).bind fun v39 =>
 ((dOps (H:=H) Try.prog).load s 3 v39).bind fun v40 =>
 ((dOps (H:=H) Try.prog).bop .geq 3 v40 (Value.int IntKind.i64 0)).bind fun v41 =>
 gd v41 (
 ((dOps (H:=H) Try.prog).fieldAddr 69 B0 0).bind fun v42 =>
 ((dOps (H:=H) Try.prog).load s 3 v42).bind fun v43 =>
 ((dOps (H:=H) Try.prog).fieldAddr 69 B0 1).bind fun v44 =>
 ((dOps (H:=H) Try.prog).load s 3 v44).bind fun v45 =>
 ((dOps (H:=H) Try.prog).bop .leq 3 v43 v45).bind fun v46 =>
 gd v46 (
 ((dOps (H:=H) Try.prog).fieldAddr 69 B0 1).bind fun v47 =>
 ((dOps (H:=H) Try.prog).load s 3 v47).bind fun v48 =>
 ((dOps (H:=H) Try.prog).bop .leq 3 v48 (Value.int IntKind.i64 35184372088832)).bind fun v49 =>
 some [(v49,s)]) (
 some [((.bool false),s)]) (
 none)) (
 some [((.bool false),s)]) (
 none) else none):=by kernel_rfl
theorem f102_r (C:OracleJ H) (n:Nat) (a0 a1:Value) (s:St H):bodyD Try.prog false C n 102 Try.f102 [a0,a1] s=f102 (dOps (H:=H) Try.prog) C n a0 a1 s:=by
  have h1:bodyD Try.prog false C n 102 Try.f102 [a0,a1] s =
 ((dOps (H:=H) Try.prog).box s a0).bind fun p26 =>
 ((dOps (H:=H) Try.prog).len p26.2 67 a1).bind fun v27 =>
 iter (fun t s k=>exec Try.prog false C n 102 none (cdp Try.f102 [1,1,0,1,0,0]) t s k) (scratch (cdp Try.f102 [1,1,0,1,0,0])) n (f102_l0_m a0 a1 p26.1 a1 v27 ((.bool false),(Value.int IntKind.u64 0),undefV,(Value.int IntKind.i64 0))) p26.2 (kBlock 0 (kSeq Try.prog false C n 102 none (cdp Try.f102 [1,1,1]) (kFun Try.prog Try.f102))):=by kernel_rfl
  rw [h1]
  simp only [f102_l0_e,f102_l0_k]
  show _=f102 (dOps (H:=H) Try.prog) C n a0 a1 s
  kernel_rfl
def f103_l0_m (D0 A0 B0 E0 F0 N0 Q0:Value) (x:Value×Value×Value×Value×Value):List Value:=[D0,A0,B0,undefV,E0,undefV,F0,x.1,x.2.1,undefV,dc,N0,Q0,x.2.2.1,dc,dc,dc,dc,dc,dc,dc,dc,dc,dc,dc,dc,dc,dc,x.2.2.2.1,dc,dc,dc,dc,dc,dc,dc,dc,dc,dc,dc,x.2.2.2.2,dc,dc,dc,dc,dc,dc,dc,dc,dc,dc,dc,dc,dc,dc,dc,dc,dc,dc,undefV,undefV,undefV,undefV,undefV,undefV,undefV]
noncomputable def f103_l0 (O:Ops H) (C:OracleJ H) (n:Nat) (B0 E0 N0 Q0:Value) (nx:(Value×Value×Value×Value×Value)→St H→RsT H) (kx:Nat→(Value×Value×Value×Value×Value)→St H→RsT H) (kr:(Value×Value×Value×Value×Value)→St H→RsT H) (x:Value×Value×Value×Value×Value) (s:St H):RsT H :=
 (O.bop .lss 3 x.2.2.1 Q0).bind fun v3 =>
 (O.boolO v3).bind fun b4=>cond b4 (
 (O.indexAddr 160 N0 x.2.2.1).bind fun v5 =>
 (O.load s 163 v5).bind fun v6 =>
 (O.alloc s 163).bind fun p7 =>
 (O.store p7.2 163 p7.1 v6).bind fun s8 =>
 (O.fieldAddr 163 p7.1 1).bind fun v9 =>
 (O.load s8 3 v9).bind fun v10 =>
 (O.fieldAddr 163 E0 0).bind fun v11 =>
 (O.load s8 3 v11).bind fun v12 =>
 (O.tgt B0 [v10,v12]).bind fun g13=>(C g13.1 g13.2 s8).bind fun L14=>manyK L14 fun v15 s16 =>
 (O.uop .not v15).bind fun v17 =>
 jn (fun (j559_7:Value) (j559_8:Value) (j559_40:Value) (js559:St H) =>
 (O.bop .add 3 x.2.2.1 (Value.int IntKind.i64 1)).bind fun v55 =>
 nx (j559_7,j559_8,v55,v17,j559_40) js559) fun k559 =>
 (O.boolO v17).bind fun b18=>cond b18 (
 (O.load s16 163 p7.1).bind fun v19 =>
 (O.buildSlice false s16 160 1 [(0,v19)]).bind fun p20 =>
 (O.append false p20.2 160 160 x.1 p20.1).bind fun p21 =>
 k559 p21.1 x.2.1 x.2.2.2.2 p21.2) (
 (O.fieldAddr 163 E0 1).bind fun v22 =>
 (O.load s16 3 v22).bind fun v23 =>
 (O.fieldAddr 163 p7.1 0).bind fun v24 =>
 (O.load s16 3 v24).bind fun v25 =>
 (O.tgt B0 [v23,v25]).bind fun g26=>(C g26.1 g26.2 s16).bind fun L27=>manyK L27 fun v28 s29 =>
 (O.uop .not v28).bind fun v30 =>
 jn (fun (j562_7:Value) (j562_8:Value) (js562:St H) =>
 k559 j562_7 j562_8 v30 js562) fun k562 =>
 (O.boolO v30).bind fun b31=>cond b31 (
 (O.uop .not x.2.1).bind fun v32 =>
 jn (fun (j564_7:Value) (j564_8:Value) (js564:St H) =>
 (O.load js564 163 p7.1).bind fun v40 =>
 (O.buildSlice false js564 160 1 [(0,v40)]).bind fun p41 =>
 (O.append false p41.2 160 160 j564_7 p41.1).bind fun p42 =>
 k562 p42.1 j564_8 p42.2) fun k564 =>
 (O.boolO v32).bind fun b33=>cond b33 (
 (O.load s29 163 E0).bind fun v34 =>
 (O.buildSlice false s29 160 1 [(0,v34)]).bind fun p35 =>
 (O.append false p35.2 160 160 x.1 p35.1).bind fun p36 =>
 k564 p36.1 (.bool true) p36.2) (
 k564 x.1 x.2.1 s29)) (
 (O.fieldAddr 163 E0 0).bind fun v43 =>
 (O.load s29 3 v43).bind fun v44 =>
 (O.fieldAddr 163 p7.1 0).bind fun v45 =>
 (O.load s29 3 v45).bind fun v46 =>
 (O.minO v44 [v46]).bind fun v47 =>
 (O.fieldAddr 163 E0 1).bind fun v48 =>
 (O.load s29 3 v48).bind fun v49 =>
 (O.fieldAddr 163 p7.1 1).bind fun v50 =>
 (O.load s29 3 v50).bind fun v51 =>
 (O.maxO v49 [v51]).bind fun v52 =>
 (O.build 163 [(0,v47),(1,v52)]).bind fun v53 =>
 (O.store s29 163 E0 v53).bind fun s54 =>
 k562 x.1 x.2.1 s54))) (
 kx 0 (x.1,x.2.1,x.2.2.1,x.2.2.2.1,x.2.2.2.2) s)
theorem f103_l0_b (C:OracleJ H) (n:Nat) (D0 A0 B0 E0 F0 N0 Q0:Value) (x:Value×Value×Value×Value×Value) (s:St H) (nx:List Value→St H→RsT H) (K:Ex→List Value→St H→RsT H) :
 exec Try.prog false C n 103 none (cdp Try.f103 [1,1,1,0,1,0,0]) (f103_l0_m D0 A0 B0 E0 F0 N0 Q0 x) s (kIter (scratch (cdp Try.f103 [1,1,1,0,1,0,0])) nx K)=f103_l0 (dOps (H:=H) Try.prog) C n B0 E0 N0 Q0 (fun x s=>nx (f103_l0_m D0 A0 B0 E0 F0 N0 Q0 x) s) (fun i x s=>K (.exit i) (f103_l0_m D0 A0 B0 E0 F0 N0 Q0 x) s) (fun x s=>K .ret (f103_l0_m D0 A0 B0 E0 F0 N0 Q0 x) s) x s:=by kernel_rfl
theorem f103_l0_e (C:OracleJ H) (n:Nat) (D0 A0 B0 E0 F0 N0 Q0:Value) (m:Nat) (x:Value×Value×Value×Value×Value) (s:St H) (K:Ex→List Value→St H→RsT H) :
 iter (fun t s k=>exec Try.prog false C n 103 none (cdp Try.f103 [1,1,1,0,1,0,0]) t s k) (scratch (cdp Try.f103 [1,1,1,0,1,0,0])) m (f103_l0_m D0 A0 B0 E0 F0 N0 Q0 x) s K=iterS (f103_l0 (dOps (H:=H) Try.prog) C n B0 E0 N0 Q0) (fun i x s=>K (.exit i) (f103_l0_m D0 A0 B0 E0 F0 N0 Q0 x) s) (fun x s=>K .ret (f103_l0_m D0 A0 B0 E0 F0 N0 Q0 x) s) m x s :=
   iter_eq (f103_l0_m D0 A0 B0 E0 F0 N0 Q0) (f103_l0 (dOps (H:=H) Try.prog) C n B0 E0 N0 Q0) (fun x s nx K=>f103_l0_b C n D0 A0 B0 E0 F0 N0 Q0 x s nx K) K m x s
noncomputable def f103 (O:Ops H) (C:OracleJ H) (n:Nat) (a0 a1 a2:Value) (s:St H):RsT H :=
 (O.box s a1).bind fun p1 =>
 (O.len p1.2 160 a0).bind fun v2 =>
 iterS (f103_l0 O C n a2 p1.1 a0 v2 )
 (fun N2 x57 s58=>(bif Nat.beq N2 0 then
 (O.uop .not x57.2.1).bind fun v61 =>
 (O.boolO v61).bind fun b62=>cond b62 (
 (O.load s58 163 p1.1).bind fun v63 =>
 (O.buildSlice false s58 160 1 [(0,v63)]).bind fun p64 =>
 (O.append false p64.2 160 160 x57.1 p64.1).bind fun p65 =>
 some [(p65.1,p65.2)]) (
 some [(x57.1,s58)]) else none))
 (fun x59 s60=>some [((fzV 2 #[]),s60)]) n ((fzV 2 #[]),(.bool false),(Value.int IntKind.i64 0),undefV,undefV) p1.2
theorem f103_l0_k (C:OracleJ H) (n:Nat) (D0 A0 B0 E0 F0 N0 Q0:Value) (i:Nat) (x:Value×Value×Value×Value×Value) (s:St H):(kBlock 0 (kSeq Try.prog false C n 103 none (cdp Try.f103 [1,1,1,1]) (kFun Try.prog Try.f103))) (.exit i) (f103_l0_m D0 A0 B0 E0 F0 N0 Q0 x) s =
 (bif Nat.beq i 0 then
 ((dOps (H:=H) Try.prog).uop .not x.2.1).bind fun v73 =>
 ((dOps (H:=H) Try.prog).boolO v73).bind fun b74=>cond b74 (
 ((dOps (H:=H) Try.prog).load s 163 E0).bind fun v75 =>
 ((dOps (H:=H) Try.prog).buildSlice false s 160 1 [(0,v75)]).bind fun p76 =>
 ((dOps (H:=H) Try.prog).append false p76.2 160 160 x.1 p76.1).bind fun p77 =>
 some [(p77.1,p77.2)]) (
 some [(x.1,s)]) else none):=by kernel_rfl
theorem f103_r (C:OracleJ H) (n:Nat) (a0 a1 a2:Value) (s:St H):bodyD Try.prog false C n 103 Try.f103 [a0,a1,a2] s=f103 (dOps (H:=H) Try.prog) C n a0 a1 a2 s:=by
  have h1:bodyD Try.prog false C n 103 Try.f103 [a0,a1,a2] s =
 ((dOps (H:=H) Try.prog).box s a1).bind fun p66 =>
 ((dOps (H:=H) Try.prog).len p66.2 160 a0).bind fun v67 =>
 iter (fun t s k=>exec Try.prog false C n 103 none (cdp Try.f103 [1,1,1,0,1,0,0]) t s k) (scratch (cdp Try.f103 [1,1,1,0,1,0,0])) n (f103_l0_m a0 a1 a2 p66.1 (fzV 2 #[]) a0 v67 ((fzV 2 #[]),(.bool false),(Value.int IntKind.i64 0),undefV,undefV)) p66.2 (kBlock 0 (kSeq Try.prog false C n 103 none (cdp Try.f103 [1,1,1,1]) (kFun Try.prog Try.f103))):=by kernel_rfl
  rw [h1]
  simp only [f103_l0_e,f103_l0_k]
  show _=f103 (dOps (H:=H) Try.prog) C n a0 a1 a2 s
  kernel_rfl
noncomputable def f104 (O:Ops H) (C:OracleJ H) (n:Nat) (a0 a1:Value) (s:St H):RsT H :=
 (O.bop .add 3 a0 (Value.int IntKind.i64 1)).bind fun v1 =>
 (O.bop .leq 3 a1 v1).bind fun v2 =>
 some [(v2,s)]
theorem f104_r (C:OracleJ H) (n:Nat) (a0 a1:Value) (s:St H):bodyD Try.prog false C n 104 Try.f104 [a0,a1] s=f104 (dOps (H:=H) Try.prog) C n a0 a1 s:=by kernel_rfl
noncomputable def f105 (O:Ops H) (C:OracleJ H) (n:Nat) (a0 a1:Value) (s:St H):RsT H :=
 (O.box s a0).bind fun p1 =>
 (O.box p1.2 a1).bind fun p2 =>
 some [((.func (.func 153) #[] #[p1.1,p2.1]),p2.2)]
theorem f105_r (C:OracleJ H) (n:Nat) (a0 a1:Value) (s:St H):bodyD Try.prog false C n 105 Try.f105 [a0,a1] s=f105 (dOps (H:=H) Try.prog) C n a0 a1 s:=by kernel_rfl
noncomputable def f106 (O:Ops H) (C:OracleJ H) (n:Nat) (a0:Value) (s:St H):RsT H :=
 (C (.fn 154) [(fzV 2 #[]),a0] s).bind fun L1=>manyK L1 fun v2 s3 =>
 some [(v2,s3)]
theorem f106_r (C:OracleJ H) (n:Nat) (a0:Value) (s:St H):bodyD Try.prog false C n 106 Try.f106 [a0] s=f106 (dOps (H:=H) Try.prog) C n a0 s:=by kernel_rfl
noncomputable def f109 (O:Ops H) (C:OracleJ H) (n:Nat) (a0:Value) (s:St H):RsT H :=
 (C (.fn 101) [a0] s).bind fun L1=>manyK L1 fun v2 s3 =>
 (O.uop .not v2).bind fun v4 =>
 (O.boolO v4).bind fun b5=>cond b5 (
 some [((fzV 2 #[]),s3)]) (
 (O.nilCheck a0).bind fun v6 =>
 (O.fieldAddr 158 v6 0).bind fun v7 =>
 (O.load s3 156 v7).bind fun v8 =>
 (C (.fn 156) [v8] s3).bind fun L9=>manyK L9 fun v10 s11 =>
 (C (.fn 155) [v10] s11).bind fun L12=>manyK L12 fun v13 s14 =>
 some [(v13,s14)])
theorem f109_r (C:OracleJ H) (n:Nat) (a0:Value) (s:St H):bodyD Try.prog false C n 109 Try.f109 [a0] s=f109 (dOps (H:=H) Try.prog) C n a0 s:=by kernel_rfl
def f111_l0_m (D0 E0:Value) (x:Value×Value×Value×Value×Value×Value×Value):List Value:=[D0,undefV,x.1,x.2.1,E0,x.2.2.1,x.2.2.2.1,x.2.2.2.2.1,x.2.2.2.2.2.1,x.2.2.2.2.2.2,dc,dc,dc,dc,dc,dc,dc,dc,dc,dc,dc,dc,dc,dc,dc,dc,dc,dc,dc,dc,dc,dc,dc,dc,dc,dc,dc,dc,dc,undefV,undefV,undefV,undefV]
noncomputable def f111_l0 (O:Ops H) (C:OracleJ H) (n:Nat) (D0 E0:Value) (nx:(Value×Value×Value×Value×Value×Value×Value)→St H→RsT H) (kx:Nat→(Value×Value×Value×Value×Value×Value×Value)→St H→RsT H) (kr:(Value×Value×Value×Value×Value×Value×Value)→St H→RsT H) (x:Value×Value×Value×Value×Value×Value×Value) (s:St H):RsT H :=
 (O.bop .lss 3 x.2.2.2.2.2.2 (Value.int IntKind.i64 2)).bind fun v2 =>
 (O.boolO v2).bind fun b3=>cond b3 (
 (O.nilCheck D0).bind fun v4 =>
 (O.fieldAddr 176 v4 0).bind fun v5 =>
 (O.load s 35 v5).bind fun v6 =>
 (O.nilCheck D0).bind fun v7 =>
 (O.fieldAddr 176 v7 1).bind fun v8 =>
 (O.load s 3 v8).bind fun v9 =>
 (oneO C (.fn 74) [v6,v9] s).bind fun p10 =>
 (O.extract p10.1 0).bind fun v11 =>
 (O.extract p10.1 1).bind fun v12 =>
 (O.extract p10.1 2).bind fun v13 =>
 (O.bop .neq 26 v13 (Value.int IntKind.i64 0)).bind fun v14 =>
 (O.boolO v14).bind fun b15=>cond b15 (
 (O.nilCheck D0).bind fun v16 =>
 (O.fieldAddr 176 v16 2).bind fun v17 =>
 (O.store p10.2 26 v17 v13).bind fun s18 =>
 kr ((Value.int IntKind.u64 0),(Value.int IntKind.u64 0),x.2.2.2.2.2.2,v11,v12,v13,x.2.2.2.2.2.2) s18) (
 (O.indexAddr 224 E0 x.2.2.2.2.2.2).bind fun v19 =>
 (O.store p10.2 70 v19 v11).bind fun s20 =>
 (O.nilCheck D0).bind fun v21 =>
 (O.fieldAddr 176 v21 1).bind fun v22 =>
 (O.store s20 3 v22 v12).bind fun s23 =>
 (O.bop .add 3 x.2.2.2.2.2.2 (Value.int IntKind.i64 1)).bind fun v24 =>
 nx (x.1,x.2.1,x.2.2.2.2.2.2,v11,v12,v13,v24) s23)) (
 kx 0 (x.1,x.2.1,x.2.2.1,x.2.2.2.1,x.2.2.2.2.1,x.2.2.2.2.2.1,x.2.2.2.2.2.2) s)
theorem f111_l0_b (C:OracleJ H) (n:Nat) (D0 E0:Value) (x:Value×Value×Value×Value×Value×Value×Value) (s:St H) (nx:List Value→St H→RsT H) (K:Ex→List Value→St H→RsT H) :
 exec Try.prog false C n 111 none (cdp Try.f111 [1,1,0,1,0,0]) (f111_l0_m D0 E0 x) s (kIter (scratch (cdp Try.f111 [1,1,0,1,0,0])) nx K)=f111_l0 (dOps (H:=H) Try.prog) C n D0 E0 (fun x s=>nx (f111_l0_m D0 E0 x) s) (fun i x s=>K (.exit i) (f111_l0_m D0 E0 x) s) (fun x s=>K .ret (f111_l0_m D0 E0 x) s) x s:=by kernel_rfl
theorem f111_l0_e (C:OracleJ H) (n:Nat) (D0 E0:Value) (m:Nat) (x:Value×Value×Value×Value×Value×Value×Value) (s:St H) (K:Ex→List Value→St H→RsT H) :
 iter (fun t s k=>exec Try.prog false C n 111 none (cdp Try.f111 [1,1,0,1,0,0]) t s k) (scratch (cdp Try.f111 [1,1,0,1,0,0])) m (f111_l0_m D0 E0 x) s K=iterS (f111_l0 (dOps (H:=H) Try.prog) C n D0 E0) (fun i x s=>K (.exit i) (f111_l0_m D0 E0 x) s) (fun x s=>K .ret (f111_l0_m D0 E0 x) s) m x s :=
   iter_eq (f111_l0_m D0 E0) (f111_l0 (dOps (H:=H) Try.prog) C n D0 E0) (fun x s nx K=>f111_l0_b C n D0 E0 x s nx K) K m x s
noncomputable def f111 (O:Ops H) (C:OracleJ H) (n:Nat) (a0:Value) (s:St H):RsT H :=
 (O.alloc s 224).bind fun p1 =>
 iterS (f111_l0 O C n a0 p1.1 )
 (fun E1 x26 s27=>(bif Nat.beq E1 0 then
 (O.indexAddr 224 p1.1 (Value.int IntKind.i64 0)).bind fun v30 =>
 (O.load s27 70 v30).bind fun v31 =>
 (O.indexAddr 224 p1.1 (Value.int IntKind.i64 1)).bind fun v32 =>
 (O.load s27 70 v32).bind fun v33 =>
 some [(.tuple #[v31,v33],s27)] else none))
 (fun x28 s29=>some [(.tuple #[x28.1,x28.2.1],s29)]) n ((Value.int IntKind.u64 0),(Value.int IntKind.u64 0),undefV,undefV,undefV,undefV,(Value.int IntKind.i64 0)) p1.2
theorem f111_l0_k (C:OracleJ H) (n:Nat) (D0 E0:Value) (i:Nat) (x:Value×Value×Value×Value×Value×Value×Value) (s:St H):(kBlock 0 (kSeq Try.prog false C n 111 none (cdp Try.f111 [1,1,1]) (kFun Try.prog Try.f111))) (.exit i) (f111_l0_m D0 E0 x) s =
 (bif Nat.beq i 0 then
 ((dOps (H:=H) Try.prog).indexAddr 224 E0 (Value.int IntKind.i64 0)).bind fun v39 =>
 ((dOps (H:=H) Try.prog).load s 70 v39).bind fun v40 =>
 ((dOps (H:=H) Try.prog).indexAddr 224 E0 (Value.int IntKind.i64 1)).bind fun v41 =>
 ((dOps (H:=H) Try.prog).load s 70 v41).bind fun v42 =>
 some [(.tuple #[v40,v42],s)] else none):=by kernel_rfl
theorem f111_r (C:OracleJ H) (n:Nat) (a0:Value) (s:St H):bodyD Try.prog false C n 111 Try.f111 [a0] s=f111 (dOps (H:=H) Try.prog) C n a0 s:=by
  have h1:bodyD Try.prog false C n 111 Try.f111 [a0] s =
 ((dOps (H:=H) Try.prog).alloc s 224).bind fun p34 =>
 iter (fun t s k=>exec Try.prog false C n 111 none (cdp Try.f111 [1,1,0,1,0,0]) t s k) (scratch (cdp Try.f111 [1,1,0,1,0,0])) n (f111_l0_m a0 p34.1 ((Value.int IntKind.u64 0),(Value.int IntKind.u64 0),undefV,undefV,undefV,undefV,(Value.int IntKind.i64 0))) p34.2 (kBlock 0 (kSeq Try.prog false C n 111 none (cdp Try.f111 [1,1,1]) (kFun Try.prog Try.f111))):=by kernel_rfl
  rw [h1]
  simp only [f111_l0_e,f111_l0_k]
  show _=f111 (dOps (H:=H) Try.prog) C n a0 s
  kernel_rfl
noncomputable def f112 (O:Ops H) (C:OracleJ H) (n:Nat) (a0 a1:Value) (s:St H):RsT H :=
 jn (fun (j708_12:Value) =>
 jn (fun (js713:St H) =>
 (O.nilCheck a0).bind fun v25 =>
 (O.fieldAddr 176 v25 2).bind fun v26 =>
 (O.load js713 26 v26).bind fun v27 =>
 (O.bop .neq 26 v27 (Value.int IntKind.i64 0)).bind fun v28 =>
 some [(v28,js713)]) fun k713 =>
 (O.boolO j708_12).bind fun b17=>cond b17 (
 (O.nilCheck a0).bind fun v18 =>
 (O.fieldAddr 176 v18 2).bind fun v19 =>
 (O.store s 26 v19 (Value.int IntKind.i64 210)).bind fun s20 =>
 k713 s20) (
 k713 s)) fun k708 =>
 (O.nilCheck a0).bind fun v1 =>
 (O.fieldAddr 176 v1 2).bind fun v2 =>
 (O.load s 26 v2).bind fun v3 =>
 (O.bop .eql 26 v3 (Value.int IntKind.i64 0)).bind fun v4 =>
 gd v4 (
 k708 a1) (
 k708 (.bool false)) (
 none)
theorem f112_r (C:OracleJ H) (n:Nat) (a0 a1:Value) (s:St H):bodyD Try.prog false C n 112 Try.f112 [a0,a1] s=f112 (dOps (H:=H) Try.prog) C n a0 a1 s:=by kernel_rfl
def f113_l0_m (D0 A0 G0:Value) (x:Value×Value×Value×Value×Value×Value×Value):List Value:=[D0,A0,undefV,undefV,x.1,x.2.1,x.2.2.1,x.2.2.2.1,x.2.2.2.2.1,x.2.2.2.2.2.1,G0,x.2.2.2.2.2.2,dc,dc,dc,dc,dc,dc,dc,dc,dc,dc,dc,dc,dc,dc,dc,dc,dc,dc,dc,dc,dc,dc,dc,dc,dc,dc,dc,dc,dc,dc,dc,dc,dc,dc,dc,dc,dc,dc,dc,dc,dc,dc,dc,dc,dc,dc,dc,dc,dc,dc,dc,undefV]
noncomputable def f113_l0 (O:Ops H) (C:OracleJ H) (n:Nat) (D0 G0:Value) (nx:(Value×Value×Value×Value×Value×Value×Value)→St H→RsT H) (kx:Nat→(Value×Value×Value×Value×Value×Value×Value)→St H→RsT H) (kr:(Value×Value×Value×Value×Value×Value×Value)→St H→RsT H) (x:Value×Value×Value×Value×Value×Value×Value) (s:St H):RsT H :=
 (O.bop .lss 70 x.2.2.2.2.2.2 G0).bind fun v1 =>
 (O.boolO v1).bind fun b2=>cond b2 (
 (C (.fn 111) [D0] s).bind fun L3=>manyK L3 fun v4 s5 =>
 (O.extract v4 0).bind fun v6 =>
 (O.extract v4 1).bind fun v7 =>
 jn (fun (j727_42:Value) (js727:St H) =>
 (O.boolO j727_42).bind fun b41=>cond b41 (
 kr ((fzV 2 #[]),x.2.1,x.2.2.1,x.2.2.2.2.2.2,v6,v7,x.2.2.2.2.2.2) js727) (
 (O.bop .add 70 x.2.2.1 v6).bind fun v42 =>
 (O.conv false js727 70 3 v42).bind fun p43 =>
 (O.bop .add 70 x.2.2.1 v6).bind fun v44 =>
 (O.bop .add 70 v44 v7).bind fun v45 =>
 (O.conv false p43.2 70 3 v45).bind fun p46 =>
 (O.build 163 [(0,p43.1),(1,p46.1)]).bind fun v47 =>
 (O.buildSlice false p46.2 160 1 [(0,v47)]).bind fun p48 =>
 (O.append false p48.2 160 160 x.2.1 p48.1).bind fun p49 =>
 (O.bop .add 70 v6 v7).bind fun v50 =>
 (O.bop .add 70 x.2.2.1 v50).bind fun v51 =>
 (O.bop .add 70 x.2.2.2.2.2.2 (Value.int IntKind.u64 1)).bind fun v52 =>
 nx (x.1,p49.1,v51,x.2.2.2.2.2.2,v6,v7,v52) p49.2)) fun k727 =>
 (O.bop .gtr 70 v6 (Value.int IntKind.u64 35184372088832)).bind fun v8 =>
 gd v8 (
 (C (.fn 112) [D0,(.bool true)] s5).bind fun L9=>manyK L9 fun v10 s11 =>
 k727 v10 s11) (
 (O.bop .gtr 70 v7 (Value.int IntKind.u64 35184372088832)).bind fun v12 =>
 gd v12 (
 (C (.fn 112) [D0,(.bool true)] s5).bind fun L13=>manyK L13 fun v14 s15 =>
 k727 v14 s15) (
 (O.bop .add 70 x.2.2.1 v6).bind fun v16 =>
 (O.bop .add 70 v16 v7).bind fun v17 =>
 (O.bop .gtr 70 v17 (Value.int IntKind.u64 35184372088832)).bind fun v18 =>
 gd v18 (
 (C (.fn 112) [D0,(.bool true)] s5).bind fun L19=>manyK L19 fun v20 s21 =>
 k727 v20 s21) (
 (O.bop .gtr 70 x.2.2.2.2.2.2 (Value.int IntKind.u64 0)).bind fun v22 =>
 gd v22 (
 (O.bop .lss 70 v6 (Value.int IntKind.u64 2)).bind fun v23 =>
 (C (.fn 112) [D0,v23] s5).bind fun L24=>manyK L24 fun v25 s26 =>
 k727 v25 s26) (
 (C (.fn 112) [D0,(.bool false)] s5).bind fun L27=>manyK L27 fun v28 s29 =>
 k727 v28 s29) (
 none)) (
 none)) (
 none)) (
 none)) (
 kx 0 (x.1,x.2.1,x.2.2.1,x.2.2.2.1,x.2.2.2.2.1,x.2.2.2.2.2.1,x.2.2.2.2.2.2) s)
theorem f113_l0_b (C:OracleJ H) (n:Nat) (D0 A0 G0:Value) (x:Value×Value×Value×Value×Value×Value×Value) (s:St H) (nx:List Value→St H→RsT H) (K:Ex→List Value→St H→RsT H) :
 exec Try.prog false C n 113 none (cdp Try.f113 [1,1,1,0,1,0,0]) (f113_l0_m D0 A0 G0 x) s (kIter (scratch (cdp Try.f113 [1,1,1,0,1,0,0])) nx K)=f113_l0 (dOps (H:=H) Try.prog) C n D0 G0 (fun x s=>nx (f113_l0_m D0 A0 G0 x) s) (fun i x s=>K (.exit i) (f113_l0_m D0 A0 G0 x) s) (fun x s=>K .ret (f113_l0_m D0 A0 G0 x) s) x s:=by kernel_rfl
theorem f113_l0_e (C:OracleJ H) (n:Nat) (D0 A0 G0:Value) (m:Nat) (x:Value×Value×Value×Value×Value×Value×Value) (s:St H) (K:Ex→List Value→St H→RsT H) :
 iter (fun t s k=>exec Try.prog false C n 113 none (cdp Try.f113 [1,1,1,0,1,0,0]) t s k) (scratch (cdp Try.f113 [1,1,1,0,1,0,0])) m (f113_l0_m D0 A0 G0 x) s K=iterS (f113_l0 (dOps (H:=H) Try.prog) C n D0 G0) (fun i x s=>K (.exit i) (f113_l0_m D0 A0 G0 x) s) (fun x s=>K .ret (f113_l0_m D0 A0 G0 x) s) m x s :=
   iter_eq (f113_l0_m D0 A0 G0) (f113_l0 (dOps (H:=H) Try.prog) C n D0 G0) (fun x s nx K=>f113_l0_b C n D0 A0 G0 x s nx K) K m x s
noncomputable def f113 (O:Ops H) (C:OracleJ H) (n:Nat) (a0 a1:Value) (s:St H):RsT H :=
 iterS (f113_l0 O C n a0 a1 )
 (fun M2 x54 s55=>(bif Nat.beq M2 0 then
 some [(x54.2.1,s55)] else none))
 (fun x56 s57=>some [(x56.1,s57)]) n ((fzV 2 #[]),(fzV 2 #[]),(Value.int IntKind.u64 0),undefV,undefV,undefV,(Value.int IntKind.u64 0)) s
theorem f113_l0_k (C:OracleJ H) (n:Nat) (D0 A0 G0:Value) (i:Nat) (x:Value×Value×Value×Value×Value×Value×Value) (s:St H):(kBlock 0 (kSeq Try.prog false C n 113 none (cdp Try.f113 [1,1,1,1]) (kFun Try.prog Try.f113))) (.exit i) (f113_l0_m D0 A0 G0 x) s =
 (bif Nat.beq i 0 then
 some [(x.2.1,s)] else none):=by kernel_rfl
theorem f113_r (C:OracleJ H) (n:Nat) (a0 a1:Value) (s:St H):bodyD Try.prog false C n 113 Try.f113 [a0,a1] s=f113 (dOps (H:=H) Try.prog) C n a0 a1 s:=by
  have h1:bodyD Try.prog false C n 113 Try.f113 [a0,a1] s =
 iter (fun t s k=>exec Try.prog false C n 113 none (cdp Try.f113 [1,1,1,0,1,0,0]) t s k) (scratch (cdp Try.f113 [1,1,1,0,1,0,0])) n (f113_l0_m a0 a1 a1 ((fzV 2 #[]),(fzV 2 #[]),(Value.int IntKind.u64 0),undefV,undefV,undefV,(Value.int IntKind.u64 0))) s (kBlock 0 (kSeq Try.prog false C n 113 none (cdp Try.f113 [1,1,1,1]) (kFun Try.prog Try.f113))):=by kernel_rfl
  rw [h1]
  simp only [f113_l0_e,f113_l0_k]
  show _=f113 (dOps (H:=H) Try.prog) C n a0 a1 s
  kernel_rfl
def f123_l0_m (D0 A0 B0 F0 R0 G0 N0 Q0 P0 M0 J0 S0 T0:Value) (x:Value×Value):List Value:=[D0,A0,B0,undefV,undefV,undefV,F0,x.1,x.2,R0,G0,N0,Q0,P0,M0,J0,S0,T0,dc,dc,dc,dc,dc,dc,dc,dc,dc,dc,undefV,undefV,undefV,undefV,undefV]
noncomputable def f123_l0 (O:Ops H) (C:OracleJ H) (n:Nat) (nx:(Value×Value)→St H→RsT H) (kx:Nat→(Value×Value)→St H→RsT H) (kr:(Value×Value)→St H→RsT H) (x:Value×Value) (s:St H):RsT H :=
 (O.bop .gtr 70 x.2 (Value.int IntKind.u64 127)).bind fun v9 =>
 (O.boolO v9).bind fun b10=>cond b10 (
 (O.conv false s 70 5 x.2).bind fun p11 =>
 (O.bop .or 5 p11.1 (Value.int IntKind.u8 128)).bind fun v12 =>
 (O.buildSlice false p11.2 35 1 [(0,v12)]).bind fun p13 =>
 (O.append false p13.2 35 35 x.1 p13.1).bind fun p14 =>
 (O.bop .shr 70 x.2 (Value.int IntKind.u64 7)).bind fun v15 =>
 nx (p14.1,v15) p14.2) (
 kx 0 (x.1,x.2) s)
theorem f123_l0_b (C:OracleJ H) (n:Nat) (D0 A0 B0 F0 R0 G0 N0 Q0 P0 M0 J0 S0 T0:Value) (x:Value×Value) (s:St H) (nx:List Value→St H→RsT H) (K:Ex→List Value→St H→RsT H) :
 exec Try.prog false C n 123 none (cdp Try.f123 [1,1,1,0,0,0]) (f123_l0_m D0 A0 B0 F0 R0 G0 N0 Q0 P0 M0 J0 S0 T0 x) s (kIter (scratch (cdp Try.f123 [1,1,1,0,0,0])) nx K)=f123_l0 (dOps (H:=H) Try.prog) C n (fun x s=>nx (f123_l0_m D0 A0 B0 F0 R0 G0 N0 Q0 P0 M0 J0 S0 T0 x) s) (fun i x s=>K (.exit i) (f123_l0_m D0 A0 B0 F0 R0 G0 N0 Q0 P0 M0 J0 S0 T0 x) s) (fun x s=>K .ret (f123_l0_m D0 A0 B0 F0 R0 G0 N0 Q0 P0 M0 J0 S0 T0 x) s) x s:=by kernel_rfl
theorem f123_l0_e (C:OracleJ H) (n:Nat) (D0 A0 B0 F0 R0 G0 N0 Q0 P0 M0 J0 S0 T0:Value) (m:Nat) (x:Value×Value) (s:St H) (K:Ex→List Value→St H→RsT H) :
 iter (fun t s k=>exec Try.prog false C n 123 none (cdp Try.f123 [1,1,1,0,0,0]) t s k) (scratch (cdp Try.f123 [1,1,1,0,0,0])) m (f123_l0_m D0 A0 B0 F0 R0 G0 N0 Q0 P0 M0 J0 S0 T0 x) s K=iterS (f123_l0 (dOps (H:=H) Try.prog) C n) (fun i x s=>K (.exit i) (f123_l0_m D0 A0 B0 F0 R0 G0 N0 Q0 P0 M0 J0 S0 T0 x) s) (fun x s=>K .ret (f123_l0_m D0 A0 B0 F0 R0 G0 N0 Q0 P0 M0 J0 S0 T0 x) s) m x s :=
   iter_eq (f123_l0_m D0 A0 B0 F0 R0 G0 N0 Q0 P0 M0 J0 S0 T0) (f123_l0 (dOps (H:=H) Try.prog) C n) (fun x s nx K=>f123_l0_b C n D0 A0 B0 F0 R0 G0 N0 Q0 P0 M0 J0 S0 T0 x s nx K) K m x s
noncomputable def f123 (O:Ops H) (C:OracleJ H) (n:Nat) (a0 a1 a2:Value) (s:St H):RsT H :=
 (O.len s 35 a0).bind fun v1 =>
 (O.bop .add 3 v1 (Value.int IntKind.i64 10)).bind fun v2 =>
 (O.makeSlice false s 35 (Value.int IntKind.i64 0) v2).bind fun p3 =>
 (O.append false p3.2 35 35 p3.1 a0).bind fun p4 =>
 (O.tgt a2 [a1]).bind fun g5=>(C g5.1 g5.2 p4.2).bind fun L6=>manyK L6 fun v7 s8 =>
 iterS (f123_l0 O C n )
 (fun S0 x17 s18=>(bif Nat.beq S0 0 then
 (O.conv false s18 70 5 x17.2).bind fun p21 =>
 (O.buildSlice false p21.2 35 1 [(0,p21.1)]).bind fun p22 =>
 (O.append false p22.2 35 35 x17.1 p22.1).bind fun p23 =>
 some [(p23.1,p23.2)] else none))
 (fun x19 s20=>some [((fzV 2 #[]),s20)]) n (p4.1,v7) s8
theorem f123_l0_k (C:OracleJ H) (n:Nat) (D0 A0 B0 F0 R0 G0 N0 Q0 P0 M0 J0 S0 T0:Value) (i:Nat) (x:Value×Value) (s:St H):(kBlock 0 (kSeq Try.prog false C n 123 none (cdp Try.f123 [1,1,1,1]) (kFun Try.prog Try.f123))) (.exit i) (f123_l0_m D0 A0 B0 F0 R0 G0 N0 Q0 P0 M0 J0 S0 T0 x) s =
 (bif Nat.beq i 0 then
 ((dOps (H:=H) Try.prog).conv false s 70 5 x.2).bind fun p35 =>
 ((dOps (H:=H) Try.prog).buildSlice false p35.2 35 1 [(0,p35.1)]).bind fun p36 =>
 ((dOps (H:=H) Try.prog).append false p36.2 35 35 x.1 p36.1).bind fun p37 =>
 some [(p37.1,p37.2)] else none):=by kernel_rfl
theorem f123_r (C:OracleJ H) (n:Nat) (a0 a1 a2:Value) (s:St H):bodyD Try.prog false C n 123 Try.f123 [a0,a1,a2] s=f123 (dOps (H:=H) Try.prog) C n a0 a1 a2 s:=by
  have h1:bodyD Try.prog false C n 123 Try.f123 [a0,a1,a2] s =
 ((dOps (H:=H) Try.prog).len s 35 a0).bind fun v24 =>
 ((dOps (H:=H) Try.prog).bop .add 3 v24 (Value.int IntKind.i64 10)).bind fun v25 =>
 ((dOps (H:=H) Try.prog).makeSlice false s 35 (Value.int IntKind.i64 0) v25).bind fun p26 =>
 ((dOps (H:=H) Try.prog).append false p26.2 35 35 p26.1 a0).bind fun p27 =>
 ((dOps (H:=H) Try.prog).tgt a2 [a1]).bind fun g28=>(C g28.1 g28.2 p27.2).bind fun L29=>manyK L29 fun v30 s31 =>
 iter (fun t s k=>exec Try.prog false C n 123 none (cdp Try.f123 [1,1,1,0,0,0]) t s k) (scratch (cdp Try.f123 [1,1,1,0,0,0])) n (f123_l0_m a0 a1 a2 (fzV 2 #[]) a0 v24 v25 p26.1 a0 p27.1 a2 a1 v30 (p27.1,v30)) s31 (kBlock 0 (kSeq Try.prog false C n 123 none (cdp Try.f123 [1,1,1,1]) (kFun Try.prog Try.f123))):=by kernel_rfl
  rw [h1]
  simp only [f123_l0_e,f123_l0_k]
  show _=f123 (dOps (H:=H) Try.prog) C n a0 a1 a2 s
  kernel_rfl
noncomputable def f124 (O:Ops H) (C:OracleJ H) (n:Nat) (a0:Value) (s:St H):RsT H :=
 some [(a0,s)]
theorem f124_r (C:OracleJ H) (n:Nat) (a0:Value) (s:St H):bodyD Try.prog false C n 124 Try.f124 [a0] s=f124 (dOps (H:=H) Try.prog) C n a0 s:=by kernel_rfl
def f153_l0_m (D0 A0 B0 F0 B1 Y0 R0 G0 N0 Q0 P0 M0 J0:Value) (x:Value):List Value:=[D0,A0,B0,undefV,undefV,dc,F0,B1,Y0,R0,G0,N0,Q0,P0,M0,J0,x,dc,dc,dc,dc,dc,dc,dc,dc,dc,dc,dc,dc]
noncomputable def f153_l0 (O:Ops H) (C:OracleJ H) (n:Nat) (D0 M0 J0:Value) (nx:Value→St H→RsT H) (kx:Nat→Value→St H→RsT H) (kr:Value→St H→RsT H) (x:Value) (s:St H):RsT H :=
 (O.bop .lss 3 x J0).bind fun v14 =>
 (O.boolO v14).bind fun b15=>cond b15 (
 (O.indexAddr 160 M0 x).bind fun v16 =>
 (O.load s 163 v16).bind fun v17 =>
 (O.alloc s 163).bind fun p18 =>
 (O.store p18.2 163 p18.1 v17).bind fun s19 =>
 (O.fieldAddr 163 p18.1 0).bind fun v20 =>
 (O.load s19 3 v20).bind fun v21 =>
 (O.fieldAddr 163 p18.1 1).bind fun v22 =>
 (O.load s19 3 v22).bind fun v23 =>
 (O.build 69 [(0,v21),(1,v23)]).bind fun v24 =>
 (O.tgt D0 [v24]).bind fun g25=>(C g25.1 g25.2 s19).bind fun L26=>manyK L26 fun v27 s28 =>
 (O.uop .not v27).bind fun v29 =>
 (O.boolO v29).bind fun b30=>cond b30 (
 kr x s28) (
 (O.bop .add 3 x (Value.int IntKind.i64 1)).bind fun v31 =>
 nx v31 s28)) (
 kx 0 x s)
theorem f153_l0_b (C:OracleJ H) (n:Nat) (D0 A0 B0 F0 B1 Y0 R0 G0 N0 Q0 P0 M0 J0:Value) (x:Value) (s:St H) (nx:List Value→St H→RsT H) (K:Ex→List Value→St H→RsT H) :
 exec Try.prog false C n 153 none (cdp Try.f153 [1,1,0,0]) (f153_l0_m D0 A0 B0 F0 B1 Y0 R0 G0 N0 Q0 P0 M0 J0 x) s (kIter (scratch (cdp Try.f153 [1,1,0,0])) nx K)=f153_l0 (dOps (H:=H) Try.prog) C n D0 M0 J0 (fun x s=>nx (f153_l0_m D0 A0 B0 F0 B1 Y0 R0 G0 N0 Q0 P0 M0 J0 x) s) (fun i x s=>K (.exit i) (f153_l0_m D0 A0 B0 F0 B1 Y0 R0 G0 N0 Q0 P0 M0 J0 x) s) (fun x s=>K .ret (f153_l0_m D0 A0 B0 F0 B1 Y0 R0 G0 N0 Q0 P0 M0 J0 x) s) x s:=by kernel_rfl
theorem f153_l0_e (C:OracleJ H) (n:Nat) (D0 A0 B0 F0 B1 Y0 R0 G0 N0 Q0 P0 M0 J0:Value) (m:Nat) (x:Value) (s:St H) (K:Ex→List Value→St H→RsT H) :
 iter (fun t s k=>exec Try.prog false C n 153 none (cdp Try.f153 [1,1,0,0]) t s k) (scratch (cdp Try.f153 [1,1,0,0])) m (f153_l0_m D0 A0 B0 F0 B1 Y0 R0 G0 N0 Q0 P0 M0 J0 x) s K=iterS (f153_l0 (dOps (H:=H) Try.prog) C n D0 M0 J0) (fun i x s=>K (.exit i) (f153_l0_m D0 A0 B0 F0 B1 Y0 R0 G0 N0 Q0 P0 M0 J0 x) s) (fun x s=>K .ret (f153_l0_m D0 A0 B0 F0 B1 Y0 R0 G0 N0 Q0 P0 M0 J0 x) s) m x s :=
   iter_eq (f153_l0_m D0 A0 B0 F0 B1 Y0 R0 G0 N0 Q0 P0 M0 J0) (f153_l0 (dOps (H:=H) Try.prog) C n D0 M0 J0) (fun x s nx K=>f153_l0_b C n D0 A0 B0 F0 B1 Y0 R0 G0 N0 Q0 P0 M0 J0 x s nx K) K m x s
noncomputable def f153 (O:Ops H) (C:OracleJ H) (n:Nat) (a0 a1 a2:Value) (s:St H):RsT H :=
 (O.load s 81 a1).bind fun v1 =>
 (C (.fn 101) [v1] s).bind fun L2=>manyK L2 fun v3 s4 =>
 (O.uop .not v3).bind fun v5 =>
 (O.boolO v5).bind fun b6=>cond b6 (
 some [(.tuple #[],s4)]) (
 (O.load s4 81 a1).bind fun v7 =>
 (O.nilCheck v7).bind fun v8 =>
 (O.fieldAddr 158 v8 0).bind fun v9 =>
 (O.load s4 156 v9).bind fun v10 =>
 (O.load s4 70 a2).bind fun v11 =>
 (O.lookup s4 156 v10 v11 false).bind fun v12 =>
 (O.len s4 160 v12).bind fun v13 =>
 iterS (f153_l0 O C n a0 v12 v13 )
 (fun Q1 x33 s34=>(bif Nat.beq Q1 0 then
 some [(.tuple #[],s34)] else none))
 (fun x35 s36=>some [(.tuple #[],s36)]) n (Value.int IntKind.i64 0) s4)
theorem f153_l0_k (C:OracleJ H) (n:Nat) (D0 A0 B0 F0 B1 Y0 R0 G0 N0 Q0 P0 M0 J0:Value) (i:Nat) (x:Value) (s:St H):(kBlock 0 (kFun Try.prog Try.f153)) (.exit i) (f153_l0_m D0 A0 B0 F0 B1 Y0 R0 G0 N0 Q0 P0 M0 J0 x) s =
 (bif Nat.beq i 0 then
 some [(.tuple #[],s)] else none):=by kernel_rfl
theorem f153_r (C:OracleJ H) (n:Nat) (a0 a1 a2:Value) (s:St H):bodyD Try.prog false C n 153 Try.f153 [a0,a1,a2] s=f153 (dOps (H:=H) Try.prog) C n a0 a1 a2 s:=by
  have h1:bodyD Try.prog false C n 153 Try.f153 [a0,a1,a2] s =
 ((dOps (H:=H) Try.prog).load s 81 a1).bind fun v37 =>
 (C (.fn 101) [v37] s).bind fun L38=>manyK L38 fun v39 s40 =>
 ((dOps (H:=H) Try.prog).uop .not v39).bind fun v41 =>
 ((dOps (H:=H) Try.prog).boolO v41).bind fun b42=>cond b42 (
 some [(.tuple #[],s40)]) (
 ((dOps (H:=H) Try.prog).load s40 81 a1).bind fun v43 =>
 ((dOps (H:=H) Try.prog).nilCheck v43).bind fun v44 =>
 ((dOps (H:=H) Try.prog).fieldAddr 158 v44 0).bind fun v45 =>
 ((dOps (H:=H) Try.prog).load s40 156 v45).bind fun v46 =>
 ((dOps (H:=H) Try.prog).load s40 70 a2).bind fun v47 =>
 ((dOps (H:=H) Try.prog).lookup s40 156 v46 v47 false).bind fun v48 =>
 ((dOps (H:=H) Try.prog).len s40 160 v48).bind fun v49 =>
 iter (fun t s k=>exec Try.prog false C n 153 none (cdp Try.f153 [1,1,0,0]) t s k) (scratch (cdp Try.f153 [1,1,0,0])) n (f153_l0_m a0 a1 a2 v37 v39 v41 v43 v44 v45 v46 v47 v48 v49 (Value.int IntKind.i64 0)) s40 (kBlock 0 (kFun Try.prog Try.f153))):=by kernel_rfl
  rw [h1]
  simp only [f153_l0_e,f153_l0_k]
  show _=f153 (dOps (H:=H) Try.prog) C n a0 a1 a2 s
  kernel_rfl
noncomputable def f154 (O:Ops H) (C:OracleJ H) (n:Nat) (a0 a1:Value) (s:St H):RsT H :=
 (O.box s a0).bind fun p1 =>
 rngO Try.prog O C 154 a1 [a0,a1,p1.1,undefV,(fzV 2 #[]),undefV,a1,undefV,undefV,undefV,undefV,undefV,undefV] [7] (cdp Try.f154 [1,0,1,0,0]) (cdp Try.f154 [1,0,1,0,1]) p1.2
 (fun s2=>(O.load s2 80 p1.1).bind fun v7 =>
 some [(v7,s2)])
 (fun s3=>some [((fzV 2 #[]),s3)])
 (fun A1 s4=>(bif Nat.beq A1 0 then
 (O.load s4 80 p1.1).bind fun v8 =>
 some [(v8,s4)] else none))
theorem f154_r (C:OracleJ H) (n:Nat) (a0 a1:Value) (s:St H):bodyD Try.prog false C n 154 Try.f154 [a0,a1] s=f154 (dOps (H:=H) Try.prog) C n a0 a1 s:=by kernel_rfl
noncomputable def f155 (O:Ops H) (C:OracleJ H) (n:Nat) (a0:Value) (s:St H):RsT H :=
 (C (.fn 196) [a0] s).bind fun L1=>manyK L1 fun v2 s3 =>
 (C (.fn 197) [v2] s3).bind fun L4=>manyK L4 fun v5 s6 =>
 some [(v2,s6)]
theorem f155_r (C:OracleJ H) (n:Nat) (a0:Value) (s:St H):bodyD Try.prog false C n 155 Try.f155 [a0] s=f155 (dOps (H:=H) Try.prog) C n a0 s:=by kernel_rfl
noncomputable def f156 (O:Ops H) (C:OracleJ H) (n:Nat) (a0:Value) (s:St H):RsT H :=
 (O.box s a0).bind fun p1 =>
 some [((.func (.func 198) #[] #[p1.1]),p1.2)]
theorem f156_r (C:OracleJ H) (n:Nat) (a0:Value) (s:St H):bodyD Try.prog false C n 156 Try.f156 [a0] s=f156 (dOps (H:=H) Try.prog) C n a0 s:=by kernel_rfl
noncomputable def f196 (O:Ops H) (C:OracleJ H) (n:Nat) (a0:Value) (s:St H):RsT H :=
 (C (.fn 210) [(fzV 2 #[]),a0] s).bind fun L1=>manyK L1 fun v2 s3 =>
 some [(v2,s3)]
theorem f196_r (C:OracleJ H) (n:Nat) (a0:Value) (s:St H):bodyD Try.prog false C n 196 Try.f196 [a0] s=f196 (dOps (H:=H) Try.prog) C n a0 s:=by kernel_rfl
noncomputable def f197 (O:Ops H) (C:OracleJ H) (n:Nat) (a0:Value) (s:St H):RsT H :=
 (O.len s 67 a0).bind fun v1 =>
 (O.conv false s 3 201 v1).bind fun p2 =>
 (C (.fn 132) [p2.1] p2.2).bind fun L3=>manyK L3 fun v4 s5 =>
 (C (.fn 211) [a0,(Value.int IntKind.i64 0),v1,v4] s5).bind fun L6=>manyK L6 fun v7 s8 =>
 some [(.tuple #[],s8)]
theorem f197_r (C:OracleJ H) (n:Nat) (a0:Value) (s:St H):bodyD Try.prog false C n 197 Try.f197 [a0] s=f197 (dOps (H:=H) Try.prog) C n a0 s:=by kernel_rfl
def f198_l0_m (D0 A0 E0 A1:Value) (x:Value):List Value:=[D0,A0,undefV,x,E0,A1,dc,dc,dc,dc,dc,dc,dc,dc]
noncomputable def f198_l0 (O:Ops H) (C:OracleJ H) (n:Nat) (D0 A1:Value) (nx:Value→St H→RsT H) (kx:Nat→Value→St H→RsT H) (kr:Value→St H→RsT H) (x:Value) (s:St H):RsT H :=
 (O.nexts s A1).bind fun L3=>manyK L3 fun v4 s5 =>
 (O.extract v4 0).bind fun v6 =>
 (O.boolO v6).bind fun b7=>cond b7 (
 (O.entry s5 A1).bind fun v8 =>
 (O.extract v8 0).bind fun v9 =>
 (O.tgt D0 [v9]).bind fun g10=>(C g10.1 g10.2 s5).bind fun L11=>manyK L11 fun v12 s13 =>
 (O.uop .not v12).bind fun v14 =>
 (O.boolO v14).bind fun b15=>cond b15 (
 kr v9 s13) (
 nx v9 s13)) (
 kx 0 x s5)
theorem f198_l0_b (C:OracleJ H) (n:Nat) (D0 A0 E0 A1:Value) (x:Value) (s:St H) (nx:List Value→St H→RsT H) (K:Ex→List Value→St H→RsT H) :
 exec Try.prog false C n 198 none (cdp Try.f198 [1,0,0]) (f198_l0_m D0 A0 E0 A1 x) s (kIter (scratch (cdp Try.f198 [1,0,0])) nx K)=f198_l0 (dOps (H:=H) Try.prog) C n D0 A1 (fun x s=>nx (f198_l0_m D0 A0 E0 A1 x) s) (fun i x s=>K (.exit i) (f198_l0_m D0 A0 E0 A1 x) s) (fun x s=>K .ret (f198_l0_m D0 A0 E0 A1 x) s) x s:=by kernel_rfl
theorem f198_l0_e (C:OracleJ H) (n:Nat) (D0 A0 E0 A1:Value) (m:Nat) (x:Value) (s:St H) (K:Ex→List Value→St H→RsT H) :
 iter (fun t s k=>exec Try.prog false C n 198 none (cdp Try.f198 [1,0,0]) t s k) (scratch (cdp Try.f198 [1,0,0])) m (f198_l0_m D0 A0 E0 A1 x) s K=iterS (f198_l0 (dOps (H:=H) Try.prog) C n D0 A1) (fun i x s=>K (.exit i) (f198_l0_m D0 A0 E0 A1 x) s) (fun x s=>K .ret (f198_l0_m D0 A0 E0 A1 x) s) m x s :=
   iter_eq (f198_l0_m D0 A0 E0 A1) (f198_l0 (dOps (H:=H) Try.prog) C n D0 A1) (fun x s nx K=>f198_l0_b C n D0 A0 E0 A1 x s nx K) K m x s
noncomputable def f198 (O:Ops H) (C:OracleJ H) (n:Nat) (a0 a1:Value) (s:St H):RsT H :=
 (O.load s 156 a1).bind fun v1 =>
 (O.range s 156 v1).bind fun p2 =>
 iterS (f198_l0 O C n a0 p2.1 )
 (fun S0 x17 s18=>(bif Nat.beq S0 0 then
 some [(.tuple #[],s18)] else none))
 (fun x19 s20=>some [(.tuple #[],s20)]) n undefV p2.2
theorem f198_l0_k (C:OracleJ H) (n:Nat) (D0 A0 E0 A1:Value) (i:Nat) (x:Value) (s:St H):(kBlock 0 (kFun Try.prog Try.f198)) (.exit i) (f198_l0_m D0 A0 E0 A1 x) s =
 (bif Nat.beq i 0 then
 some [(.tuple #[],s)] else none):=by kernel_rfl
theorem f198_r (C:OracleJ H) (n:Nat) (a0 a1:Value) (s:St H):bodyD Try.prog false C n 198 Try.f198 [a0,a1] s=f198 (dOps (H:=H) Try.prog) C n a0 a1 s:=by
  have h1:bodyD Try.prog false C n 198 Try.f198 [a0,a1] s =
 ((dOps (H:=H) Try.prog).load s 156 a1).bind fun v21 =>
 ((dOps (H:=H) Try.prog).range s 156 v21).bind fun p22 =>
 iter (fun t s k=>exec Try.prog false C n 198 none (cdp Try.f198 [1,0,0]) t s k) (scratch (cdp Try.f198 [1,0,0])) n (f198_l0_m a0 a1 v21 p22.1 undefV) p22.2 (kBlock 0 (kFun Try.prog Try.f198)):=by kernel_rfl
  rw [h1]
  simp only [f198_l0_e,f198_l0_k]
  show _=f198 (dOps (H:=H) Try.prog) C n a0 a1 s
  kernel_rfl
noncomputable def f210 (O:Ops H) (C:OracleJ H) (n:Nat) (a0 a1:Value) (s:St H):RsT H :=
 (O.box s a0).bind fun p1 =>
 rngO Try.prog O C 210 a1 [a0,a1,p1.1,undefV,(fzV 2 #[]),undefV,a1,undefV,undefV,undefV,undefV,undefV,undefV] [7] (cdp Try.f210 [1,0,1,0,0]) (cdp Try.f210 [1,0,1,0,1]) p1.2
 (fun s2=>(O.load s2 67 p1.1).bind fun v7 =>
 some [(v7,s2)])
 (fun s3=>some [((fzV 2 #[]),s3)])
 (fun A1 s4=>(bif Nat.beq A1 0 then
 (O.load s4 67 p1.1).bind fun v8 =>
 some [(v8,s4)] else none))
theorem f210_r (C:OracleJ H) (n:Nat) (a0 a1:Value) (s:St H):bodyD Try.prog true C n 210 Try.f210 [a0,a1] s=f210 (dOps (H:=H) Try.prog) C n a0 a1 s:=by kernel_rfl
noncomputable def f210_r0 (O:Ops H) (C:OracleJ H) (n:Nat) (l:Nat) (B0:Value) (x0:Value) (s:St H):RsT H :=
 (beginD s l).bind fun s9 =>
 (O.load s9 67 B0).bind fun v10 =>
 (O.buildSlice true s9 67 1 [(0,x0)]).bind fun p11 =>
 (O.append true p11.2 67 67 v10 p11.1).bind fun p12 =>
 (O.store p12.2 67 B0 p12.1).bind fun s13 =>
 (setLoopD s13 l 0 none).map fun s=>[((.bool true),s)]
theorem f210_r0_x (C:OracleJ H) (n:Nat) (l:Nat) (D0 A0 B0 I0 E0 A1 F0 B1 Y0 R0 G0 N0 Q0:Value) (x0:Value) (s:St H):exec Try.prog true C n 210 (some l) (cdp Try.f210 [1,0,1,0,0]) [D0,A0,B0,I0,E0,A1,F0,x0,Y0,R0,G0,N0,Q0] s (kAsg Try.prog true C n 210 l (cdp Try.f210 [1,0,1,0,1]))=f210_r0 (dOps (H:=H) Try.prog) C n l B0 x0 s:=by kernel_rfl
theorem f210_r0_e {C:OracleJ H} {rw:FuncId→Bool} {n l:Nat} {pe:Option Code} {D0 A0 B0 I0 E0 A1 F0 B1 Y0 R0 G0 N0 Q0:Value} {s:St H} (hrw:rw 210=true) (h:loopD s l=some (0,pe,210,[D0,A0,B0,I0,E0,A1,F0,B1,Y0,R0,G0,N0,Q0],[7],cdp Try.f210 [1,0,1,0,0],cdp Try.f210 [1,0,1,0,1])) (x0:Value):roundD Try.prog rw C n l [x0] s=f210_r0 (dOps (H:=H) Try.prog) C n l B0 x0 s:=by (unfold roundD; rw [h,bindS,hrw]; exact f210_r0_x C n l D0 A0 B0 I0 E0 A1 F0 B1 Y0 R0 G0 N0 Q0 x0 s)
end Go.Proofs.Ytmhmbmogodofeaa.S
