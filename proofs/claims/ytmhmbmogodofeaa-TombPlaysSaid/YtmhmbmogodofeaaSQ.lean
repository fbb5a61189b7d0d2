import Derived.Test.YtmhmbmogodofeaaFy
import Derived.ProofKit
import Derived.Test.YtmhmbmogodofeaaRows
set_option linter.unusedVariables false
set_option maxRecDepth 100000
namespace Go.Proofs.Ytmhmbmogodofeaa.S
open Go.FS Go.RowKit
open Go.Proofs.Try (prog)
variable {H:HeapI}
noncomputable abbrev dF (H:HeapI):Ops H:=dOps (H:=H) prog
noncomputable def f220 (O:Ops H) (C:OracleJ H) (n:Nat) (a0:Value) (a1:Value) (s:St H):Option (List (Value×St H)) :=
 (C (.fn 226) [a0] s).bind fun L1=>manyK L1 fun v2 s3 =>
 gd v2 (
 (C (.fn 226) [a1] s3).bind fun L4=>manyK L4 fun v5 s6 =>
 (O.uop .not v5).bind fun v7 =>
 gd v7 (
 some [((.bool true),s6)]) (
 (O.bop .lss 70 a0 a1).bind fun v8 =>
 some [(v8,s6)]) (
 none)) (
 (O.bop .lss 70 a0 a1).bind fun v9 =>
 some [(v9,s3)]) (
 none)
theorem f220_r (C:OracleJ H) (n:Nat) (a0:Value) (a1:Value) (s:St H):bodyD prog false C n 220 Try.f220 [a0,a1] s=f220 (dOps (H:=H) prog) C n a0 a1 s:=by kernel_rfl
noncomputable def f226 (O:Ops H) (C:OracleJ H) (n:Nat) (a0:Value) (s:St H):Option (List (Value×St H)) :=
 (O.bop .neq 70 a0 a0).bind fun v1 =>
 some [(v1,s)]
theorem f226_r (C:OracleJ H) (n:Nat) (a0:Value) (s:St H):bodyD prog false C n 226 Try.f226 [a0] s=f226 (dOps (H:=H) prog) C n a0 s:=by kernel_rfl
end Go.Proofs.Ytmhmbmogodofeaa.S
namespace Go.Proofs.Ytmhmbmogodofeaa.S
open Go.FS Go.RowKit
open Go.Proofs.Try (prog)
abbrev Rs214 (H:HeapI):=Option (List (Value×St H))
variable {H:HeapI}
def f214_l1_m (B0 A0 D0 G0 E0 F0 I0 J0 M0 N0:Value) (x:Value):List Value:=[B0,A0,D0,undefV,undefV,undefV,G0,x,E0,F0,I0,J0,M0,dc,dc,N0,dc,dc,dc,dc,dc,dc,dc,dc,dc,dc,dc,dc,dc,dc,dc,dc,dc,dc,dc,dc,dc,dc,dc,dc,dc,dc,dc,dc,dc,dc,dc,dc,dc]
noncomputable def f214_l1 (O:Ops H) (C:OracleJ H) (n:Nat) (B0 A0:Value) (nx:Value→St H→Rs214 H) (kx:Nat→Value→St H→Rs214 H) (kr:Value→St H→Rs214 H) (x:Value) (s:St H):Rs214 H :=
 jn (fun (j8_30:Value) (js8:St H) =>
 (O.boolO j8_30).bind fun b23=>cond b23 (
 (O.bop .sub 3 x (.int .i64 1)).bind fun v24 =>
 (O.bop .sub 3 x (.int .i64 1)).bind fun v25 =>
 (O.indexAddr 67 B0 v25).bind fun v26 =>
 (O.load js8 70 v26).bind fun v27 =>
 (O.indexAddr 67 B0 x).bind fun v28 =>
 (O.load js8 70 v28).bind fun v29 =>
 (O.indexAddr 67 B0 x).bind fun v30 =>
 (O.store js8 70 v30 v27).bind fun s31 =>
 (O.indexAddr 67 B0 v24).bind fun v32 =>
 (O.store s31 70 v32 v29).bind fun s33 =>
 (O.bop .sub 3 x (.int .i64 1)).bind fun v34 =>
 nx v34 s33) (
 kx 2 x js8)) fun k8 =>
 (O.bop .gtr 3 x A0).bind fun v4 =>
 gd v4 (
 (O.indexAddr 67 B0 x).bind fun v5 =>
 (O.load s 70 v5).bind fun v6 =>
 (O.bop .sub 3 x (.int .i64 1)).bind fun v7 =>
 (O.indexAddr 67 B0 v7).bind fun v8 =>
 (O.load s 70 v8).bind fun v9 =>
 (oneO C (.fn 220) [v6,v9] s).bind fun p10 =>
 k8 p10.1 p10.2) (
 k8 (.bool false) s) (
 none)
theorem f214_l1_b (C:OracleJ H) (n:Nat) (B0 A0 D0 G0 E0 F0 I0 J0 M0 N0:Value) (x:Value) (s:St H) (nx:List Value→St H→Rs214 H) (K:Ex→List Value→St H→Rs214 H) :
 exec prog false C n 214 none (cdp Try.f214 [1,0,0,1,0,0,1,0,0]) (f214_l1_m B0 A0 D0 G0 E0 F0 I0 J0 M0 N0 x) s (kIter (scratch (cdp Try.f214 [1,0,0,1,0,0,1,0,0])) nx K)=f214_l1 (dOps (H:=H) prog) C n B0 A0 (fun x s=>nx (f214_l1_m B0 A0 D0 G0 E0 F0 I0 J0 M0 N0 x) s) (fun i x s=>K (.exit i) (f214_l1_m B0 A0 D0 G0 E0 F0 I0 J0 M0 N0 x) s) (fun x s=>K .ret (f214_l1_m B0 A0 D0 G0 E0 F0 I0 J0 M0 N0 x) s) x s:=by kernel_rfl
theorem f214_l1_e (C:OracleJ H) (n:Nat) (B0 A0 D0 G0 E0 F0 I0 J0 M0 N0:Value) (m:Nat) (x:Value) (s:St H) (K:Ex→List Value→St H→Rs214 H) :
 iter (fun t s k=>exec prog false C n 214 none (cdp Try.f214 [1,0,0,1,0,0,1,0,0]) t s k) (scratch (cdp Try.f214 [1,0,0,1,0,0,1,0,0])) m (f214_l1_m B0 A0 D0 G0 E0 F0 I0 J0 M0 N0 x) s K=iterS (f214_l1 (dOps (H:=H) prog) C n B0 A0) (fun i x s=>K (.exit i) (f214_l1_m B0 A0 D0 G0 E0 F0 I0 J0 M0 N0 x) s) (fun x s=>K .ret (f214_l1_m B0 A0 D0 G0 E0 F0 I0 J0 M0 N0 x) s) m x s :=
   iter_eq (f214_l1_m B0 A0 D0 G0 E0 F0 I0 J0 M0 N0) (f214_l1 (dOps (H:=H) prog) C n B0 A0) (fun x s nx K=>f214_l1_b C n B0 A0 D0 G0 E0 F0 I0 J0 M0 N0 x s nx K) K m x s
def f214_l0_m (B0 A0 D0 E0 F0:Value) (x:Value×Value):List Value:=[B0,A0,D0,undefV,undefV,undefV,x.1,x.2,E0,F0,dc,dc,dc,dc,dc,dc,dc,dc,dc,dc,dc,dc,dc,dc,dc,dc,dc,dc,dc,dc,dc,dc,dc,dc,dc,dc,dc,dc,dc,dc,dc,dc,dc,dc,dc,dc,dc,dc,dc]
noncomputable def f214_l0 (O:Ops H) (C:OracleJ H) (n:Nat) (B0 A0 D0:Value) (nx:(Value×Value)→St H→Rs214 H) (kx:Nat→(Value×Value)→St H→Rs214 H) (kr:(Value×Value)→St H→Rs214 H) (x:Value×Value) (s:St H):Rs214 H :=
 (O.bop .lss 3 x.1 D0).bind fun v2 =>
 (O.boolO v2).bind fun b3=>cond b3 (
 iterS (f214_l1 O C n B0 A0 )
 (fun P0 x36 s37=>(bif Nat.beq P0 2 then
 (O.bop .add 3 x.1 (.int .i64 1)).bind fun v42 =>
 nx (v42,x36) s37 else (bif Nat.beq P0 1 then
 (O.bop .add 3 x.1 (.int .i64 1)).bind fun v41 =>
 nx (v41,x36) s37 else kx P0 (x.1,x36) s37)))
 (fun x38 s39=>kr (x.1,x38) s39) n x.1 s) (
 kx 0 (x.1,x.2) s)
theorem f214_l1_k (C:OracleJ H) (n:Nat) (B0 A0 D0 G0 E0 F0 I0 J0 M0 N0:Value) (nx:List Value→St H→Rs214 H) (K:Ex→List Value→St H→Rs214 H) (i:Nat) (x:Value) (s:St H):(kBlock 2 (kBlock 1 (kSeq prog false C n 214 none (cdp Try.f214 [1,0,0,1,1]) (kIter (scratch (cdp Try.f214 [1,0,0])) nx K)))) (.exit i) (f214_l1_m B0 A0 D0 G0 E0 F0 I0 J0 M0 N0 x) s =
 (bif Nat.beq i 2 then
 ((dF H).bop .add 3 G0 (.int .i64 1)).bind fun v47 =>
 nx (f214_l0_m B0 A0 D0 E0 F0 (v47,x)) s else (bif Nat.beq i 1 then
 ((dF H).bop .add 3 G0 (.int .i64 1)).bind fun v48 =>
 nx (f214_l0_m B0 A0 D0 E0 F0 (v48,x)) s else K (.exit i) (f214_l0_m B0 A0 D0 E0 F0 (G0,x)) s)):=by kernel_rfl
theorem f214_l0_b (C:OracleJ H) (n:Nat) (B0 A0 D0 E0 F0:Value) (x:Value×Value) (s:St H) (nx:List Value→St H→Rs214 H) (K:Ex→List Value→St H→Rs214 H) :
 exec prog false C n 214 none (cdp Try.f214 [1,0,0]) (f214_l0_m B0 A0 D0 E0 F0 x) s (kIter (scratch (cdp Try.f214 [1,0,0])) nx K)=f214_l0 (dOps (H:=H) prog) C n B0 A0 D0 (fun x s=>nx (f214_l0_m B0 A0 D0 E0 F0 x) s) (fun i x s=>K (.exit i) (f214_l0_m B0 A0 D0 E0 F0 x) s) (fun x s=>K .ret (f214_l0_m B0 A0 D0 E0 F0 x) s) x s:=by
  have h1:exec prog false C n 214 none (cdp Try.f214 [1,0,0]) (f214_l0_m B0 A0 D0 E0 F0 x) s (kIter (scratch (cdp Try.f214 [1,0,0])) nx K) =
 ((dF H).bop .lss 3 x.1 D0).bind fun v43 =>
 ((dF H).boolO v43).bind fun b44=>cond b44 (
 iter (fun t s k=>exec prog false C n 214 none (cdp Try.f214 [1,0,0,1,0,0,1,0,0]) t s k) (scratch (cdp Try.f214 [1,0,0,1,0,0,1,0,0])) n (f214_l1_m B0 A0 D0 x.1 E0 F0 x.1 D0 v43 x.1 x.1) s (kBlock 2 (kBlock 1 (kSeq prog false C n 214 none (cdp Try.f214 [1,0,0,1,1]) (kIter (scratch (cdp Try.f214 [1,0,0])) nx K))))) (
 K (.exit 0) (f214_l0_m B0 A0 D0 E0 F0 (x.1,x.2)) s):=by kernel_rfl
  rw [h1]
  simp only [f214_l1_e,f214_l1_k]
  show _=f214_l0 (dOps (H:=H) prog) C n B0 A0 D0 (fun x s=>nx (f214_l0_m B0 A0 D0 E0 F0 x) s) (fun i x s=>K (.exit i) (f214_l0_m B0 A0 D0 E0 F0 x) s) (fun x s=>K .ret (f214_l0_m B0 A0 D0 E0 F0 x) s) x s
  kernel_rfl
theorem f214_l0_e (C:OracleJ H) (n:Nat) (B0 A0 D0 E0 F0:Value) (m:Nat) (x:Value×Value) (s:St H) (K:Ex→List Value→St H→Rs214 H) :
 iter (fun t s k=>exec prog false C n 214 none (cdp Try.f214 [1,0,0]) t s k) (scratch (cdp Try.f214 [1,0,0])) m (f214_l0_m B0 A0 D0 E0 F0 x) s K=iterS (f214_l0 (dOps (H:=H) prog) C n B0 A0 D0) (fun i x s=>K (.exit i) (f214_l0_m B0 A0 D0 E0 F0 x) s) (fun x s=>K .ret (f214_l0_m B0 A0 D0 E0 F0 x) s) m x s :=
   iter_eq (f214_l0_m B0 A0 D0 E0 F0) (f214_l0 (dOps (H:=H) prog) C n B0 A0 D0) (fun x s nx K=>f214_l0_b C n B0 A0 D0 E0 F0 x s nx K) K m x s
noncomputable def f214 (O:Ops H) (C:OracleJ H) (n:Nat) (a0 a1 a2:Value) (s:St H):Rs214 H :=
 (O.bop .add 3 a1 (.int .i64 1)).bind fun v1 =>
 iterS (f214_l0 O C n a0 a1 a2 )
 (fun Q0 x50 s51=>(bif Nat.beq Q0 0 then
 some [(.tuple #[],s51)] else none))
 (fun x52 s53=>some [(.tuple #[],s53)]) n (v1,undefV) s
theorem f214_l0_k (C:OracleJ H) (n:Nat) (B0 A0 D0 E0 F0:Value) (i:Nat) (x:Value×Value) (s:St H):(kBlock 0 (kFun prog Try.f214)) (.exit i) (f214_l0_m B0 A0 D0 E0 F0 x) s =
 (bif Nat.beq i 0 then
 some [(.tuple #[],s)] else none):=by kernel_rfl
theorem f214_r (C:OracleJ H) (n:Nat) (a0 a1 a2:Value) (s:St H):bodyD prog false C n 214 Try.f214 [a0,a1,a2] s=f214 (dOps (H:=H) prog) C n a0 a1 a2 s:=by
  have h1:bodyD prog false C n 214 Try.f214 [a0,a1,a2] s =
 ((dF H).bop .add 3 a1 (.int .i64 1)).bind fun v54 =>
 iter (fun t s k=>exec prog false C n 214 none (cdp Try.f214 [1,0,0]) t s k) (scratch (cdp Try.f214 [1,0,0])) n (f214_l0_m a0 a1 a2 a1 v54 (v54,undefV)) s (kBlock 0 (kFun prog Try.f214)):=by kernel_rfl
  rw [h1]
  simp only [f214_l0_e,f214_l0_k]
  show _=f214 (dOps (H:=H) prog) C n a0 a1 a2 s
  kernel_rfl
end Go.Proofs.Ytmhmbmogodofeaa.S
namespace Go.Proofs.Ytmhmbmogodofeaa.S
open Go.FS Go.RowKit
open Go.Proofs.Try (prog)
abbrev Rs223 (H:HeapI):=Option (List (Value×St H))
variable {H:HeapI}
def f223_l0_m (B0 A0 E0 D0 F0:Value) (x:Value×Value):List Value:=[B0,A0,E0,D0,undefV,undefV,undefV,undefV,x.1,x.2,F0,dc,dc,dc,dc,dc,dc,dc,dc,dc,dc,dc,dc,dc,dc,dc,dc,dc,dc,dc,dc,dc,dc,dc,dc,dc,dc,dc,dc,dc,dc,dc,dc,dc,dc,dc,dc,dc,dc,dc,dc,dc,dc,dc,dc,dc,dc,dc,dc,dc,dc,dc,dc,dc,dc,dc,dc,dc,dc,dc,dc,dc,dc,dc,dc,dc]
noncomputable def f223_l0 (O:Ops H) (C:OracleJ H) (n:Nat) (B0 E0 D0:Value) (nx:(Value×Value)→St H→Rs223 H) (kx:Nat→(Value×Value)→St H→Rs223 H) (kr:(Value×Value)→St H→Rs223 H) (x:Value×Value) (s:St H):Rs223 H :=
 (O.bop .mul 3 (.int .i64 2) x.1).bind fun v1 =>
 (O.bop .add 3 v1 (.int .i64 1)).bind fun v2 =>
 (O.bop .geq 3 v2 E0).bind fun v3 =>
 (O.boolO v3).bind fun b4=>cond b4 (
 kx 0 (x.1,v2) s) (
 jn (fun (j7_36:Value) (js7:St H) =>
 jn (fun (j18_9:Value) =>
 (O.bop .add 3 D0 x.1).bind fun v82 =>
 (O.indexAddr 67 B0 v82).bind fun v83 =>
 (O.load js7 70 v83).bind fun v84 =>
 (O.bop .add 3 D0 j18_9).bind fun v85 =>
 (O.indexAddr 67 B0 v85).bind fun v86 =>
 (O.load js7 70 v86).bind fun v87 =>
 (oneO C (.fn 220) [v84,v87] js7).bind fun p88 =>
 (O.uop .not p88.1).bind fun v89 =>
 (O.boolO v89).bind fun b90=>cond b90 (
 kr (x.1,j18_9) p88.2) (
 (O.bop .add 3 D0 x.1).bind fun v91 =>
 (O.bop .add 3 D0 j18_9).bind fun v92 =>
 (O.bop .add 3 D0 j18_9).bind fun v93 =>
 (O.indexAddr 67 B0 v93).bind fun v94 =>
 (O.load p88.2 70 v94).bind fun v95 =>
 (O.bop .add 3 D0 x.1).bind fun v96 =>
 (O.indexAddr 67 B0 v96).bind fun v97 =>
 (O.load p88.2 70 v97).bind fun v98 =>
 (O.indexAddr 67 B0 v91).bind fun v99 =>
 (O.store p88.2 70 v99 v95).bind fun s100 =>
 (O.indexAddr 67 B0 v92).bind fun v101 =>
 (O.store s100 70 v101 v98).bind fun s102 =>
 nx (j18_9,j18_9) s102)) fun k18 =>
 (O.boolO j7_36).bind fun b59=>cond b59 (
 (O.bop .add 3 v2 (.int .i64 1)).bind fun v60 =>
 k18 v60) (
 k18 v2)) fun k7 =>
 (O.bop .add 3 v2 (.int .i64 1)).bind fun v5 =>
 (O.bop .lss 3 v5 E0).bind fun v6 =>
 gd v6 (
 (O.bop .add 3 D0 v2).bind fun v7 =>
 (O.indexAddr 67 B0 v7).bind fun v8 =>
 (O.load s 70 v8).bind fun v9 =>
 (O.bop .add 3 D0 v2).bind fun v10 =>
 (O.bop .add 3 v10 (.int .i64 1)).bind fun v11 =>
 (O.indexAddr 67 B0 v11).bind fun v12 =>
 (O.load s 70 v12).bind fun v13 =>
 (oneO C (.fn 220) [v9,v13] s).bind fun p14 =>
 k7 p14.1 p14.2) (
 k7 (.bool false) s) (
 none))
theorem f223_l0_b (C:OracleJ H) (n:Nat) (B0 A0 E0 D0 F0:Value) (x:Value×Value) (s:St H) (nx:List Value→St H→Rs223 H) (K:Ex→List Value→St H→Rs223 H) :
 exec prog false C n 223 none (cdp Try.f223 [1,0,0]) (f223_l0_m B0 A0 E0 D0 F0 x) s (kIter (scratch (cdp Try.f223 [1,0,0])) nx K)=f223_l0 (dOps (H:=H) prog) C n B0 E0 D0 (fun x s=>nx (f223_l0_m B0 A0 E0 D0 F0 x) s) (fun i x s=>K (.exit i) (f223_l0_m B0 A0 E0 D0 F0 x) s) (fun x s=>K .ret (f223_l0_m B0 A0 E0 D0 F0 x) s) x s:=by kernel_rfl
theorem f223_l0_e (C:OracleJ H) (n:Nat) (B0 A0 E0 D0 F0:Value) (m:Nat) (x:Value×Value) (s:St H) (K:Ex→List Value→St H→Rs223 H) :
 iter (fun t s k=>exec prog false C n 223 none (cdp Try.f223 [1,0,0]) t s k) (scratch (cdp Try.f223 [1,0,0])) m (f223_l0_m B0 A0 E0 D0 F0 x) s K=iterS (f223_l0 (dOps (H:=H) prog) C n B0 E0 D0) (fun i x s=>K (.exit i) (f223_l0_m B0 A0 E0 D0 F0 x) s) (fun x s=>K .ret (f223_l0_m B0 A0 E0 D0 F0 x) s) m x s :=
   iter_eq (f223_l0_m B0 A0 E0 D0 F0) (f223_l0 (dOps (H:=H) prog) C n B0 E0 D0) (fun x s nx K=>f223_l0_b C n B0 A0 E0 D0 F0 x s nx K) K m x s
noncomputable def f223 (O:Ops H) (C:OracleJ H) (n:Nat) (a0 a1 a2 a3:Value) (s:St H):Rs223 H :=
 iterS (f223_l0 O C n a0 a2 a3 )
 (fun G0 x104 s105=>(bif Nat.beq G0 0 then
 some [(.tuple #[],s105)] else none))
 (fun x106 s107=>some [(.tuple #[],s107)]) n (a1,undefV) s
theorem f223_l0_k (C:OracleJ H) (n:Nat) (B0 A0 E0 D0 F0:Value) (i:Nat) (x:Value×Value) (s:St H):(kBlock 0 (kFun prog Try.f223)) (.exit i) (f223_l0_m B0 A0 E0 D0 F0 x) s =
 (bif Nat.beq i 0 then
 some [(.tuple #[],s)] else none):=by kernel_rfl
theorem f223_r (C:OracleJ H) (n:Nat) (a0 a1 a2 a3:Value) (s:St H):bodyD prog false C n 223 Try.f223 [a0,a1,a2,a3] s=f223 (dOps (H:=H) prog) C n a0 a1 a2 a3 s:=by
  have h1:bodyD prog false C n 223 Try.f223 [a0,a1,a2,a3] s =
 iter (fun t s k=>exec prog false C n 223 none (cdp Try.f223 [1,0,0]) t s k) (scratch (cdp Try.f223 [1,0,0])) n (f223_l0_m a0 a1 a2 a3 a1 (a1,undefV)) s (kBlock 0 (kFun prog Try.f223)):=by kernel_rfl
  rw [h1]
  simp only [f223_l0_e,f223_l0_k]
  show _=f223 (dOps (H:=H) prog) C n a0 a1 a2 a3 s
  kernel_rfl
end Go.Proofs.Ytmhmbmogodofeaa.S
namespace Go.Proofs.Ytmhmbmogodofeaa.S
open Go.FS Go.RowKit
open Go.Proofs.Try (prog)
abbrev Rs215 (H:HeapI):=Option (List (Value×St H))
variable {H:HeapI}
def f215_l0_m (E0 A0 D0 B0 F0 G0 I0 J0 M0 N0 P0 Q0:Value) (x:Value):List Value:=[E0,A0,D0,undefV,undefV,undefV,B0,(Value.int IntKind.i64 0),F0,x,undefV,G0,I0,J0,M0,N0,P0,Q0,dc,dc,dc,dc,dc,dc,dc,dc,dc,undefV,undefV,undefV,undefV,undefV,undefV,undefV,undefV,undefV,undefV,undefV,undefV,undefV,undefV,undefV,undefV,undefV,undefV,undefV,undefV,undefV,undefV,undefV,undefV,undefV,undefV,undefV,undefV,undefV]
noncomputable def f215_l0 (O:Ops H) (C:OracleJ H) (n:Nat) (E0 B0 F0:Value) (nx:Value→St H→Rs215 H) (kx:Nat→Value→St H→Rs215 H) (kr:Value→St H→Rs215 H) (x:Value) (s:St H):Rs215 H :=
 (O.bop .geq 3 x (.int .i64 0)).bind fun v4 =>
 (O.boolO v4).bind fun b5=>cond b5 (
 (C (.fn 223) [E0,x,F0,B0] s).bind fun L6=>manyK L6 fun v7 s8 =>
 (O.bop .sub 3 x (.int .i64 1)).bind fun v9 =>
 nx v9 s8) (
 kx 0 x s)
theorem f215_l0_b (C:OracleJ H) (n:Nat) (E0 A0 D0 B0 F0 G0 I0 J0 M0 N0 P0 Q0:Value) (x:Value) (s:St H) (nx:List Value→St H→Rs215 H) (K:Ex→List Value→St H→Rs215 H) :
 exec prog false C n 215 none (cdp Try.f215 [1,1,1,0,1,0,0]) (f215_l0_m E0 A0 D0 B0 F0 G0 I0 J0 M0 N0 P0 Q0 x) s (kIter (scratch (cdp Try.f215 [1,1,1,0,1,0,0])) nx K)=f215_l0 (dOps (H:=H) prog) C n E0 B0 F0 (fun x s=>nx (f215_l0_m E0 A0 D0 B0 F0 G0 I0 J0 M0 N0 P0 Q0 x) s) (fun i x s=>K (.exit i) (f215_l0_m E0 A0 D0 B0 F0 G0 I0 J0 M0 N0 P0 Q0 x) s) (fun x s=>K .ret (f215_l0_m E0 A0 D0 B0 F0 G0 I0 J0 M0 N0 P0 Q0 x) s) x s:=by kernel_rfl
theorem f215_l0_e (C:OracleJ H) (n:Nat) (E0 A0 D0 B0 F0 G0 I0 J0 M0 N0 P0 Q0:Value) (m:Nat) (x:Value) (s:St H) (K:Ex→List Value→St H→Rs215 H) :
 iter (fun t s k=>exec prog false C n 215 none (cdp Try.f215 [1,1,1,0,1,0,0]) t s k) (scratch (cdp Try.f215 [1,1,1,0,1,0,0])) m (f215_l0_m E0 A0 D0 B0 F0 G0 I0 J0 M0 N0 P0 Q0 x) s K=iterS (f215_l0 (dOps (H:=H) prog) C n E0 B0 F0) (fun i x s=>K (.exit i) (f215_l0_m E0 A0 D0 B0 F0 G0 I0 J0 M0 N0 P0 Q0 x) s) (fun x s=>K .ret (f215_l0_m E0 A0 D0 B0 F0 G0 I0 J0 M0 N0 P0 Q0 x) s) m x s :=
   iter_eq (f215_l0_m E0 A0 D0 B0 F0 G0 I0 J0 M0 N0 P0 Q0) (f215_l0 (dOps (H:=H) prog) C n E0 B0 F0) (fun x s nx K=>f215_l0_b C n E0 A0 D0 B0 F0 G0 I0 J0 M0 N0 P0 Q0 x s nx K) K m x s
def f215_l1_m (E0 A0 D0 B0 F0 T0 G0 I0 J0 M0 N0 P0 Q0 R0 S0:Value) (x:Value):List Value:=[E0,A0,D0,undefV,undefV,undefV,B0,(Value.int IntKind.i64 0),F0,T0,x,G0,I0,J0,M0,N0,P0,Q0,dc,dc,dc,dc,dc,dc,dc,dc,dc,R0,S0,dc,dc,dc,dc,dc,dc,dc,dc,dc,dc,dc,dc,dc,dc,dc,dc,dc,dc,dc,dc,dc,dc,dc,dc,dc,dc,dc]
noncomputable def f215_l1 (O:Ops H) (C:OracleJ H) (n:Nat) (E0 B0:Value) (nx:Value→St H→Rs215 H) (kx:Nat→Value→St H→Rs215 H) (kr:Value→St H→Rs215 H) (x:Value) (s:St H):Rs215 H :=
 (O.bop .geq 3 x (.int .i64 0)).bind fun v16 =>
 (O.boolO v16).bind fun b17=>cond b17 (
 (O.bop .add 3 B0 x).bind fun v18 =>
 (O.bop .add 3 B0 x).bind fun v19 =>
 (O.indexAddr 67 E0 v19).bind fun v20 =>
 (O.load s 70 v20).bind fun v21 =>
 (O.indexAddr 67 E0 B0).bind fun v22 =>
 (O.load s 70 v22).bind fun v23 =>
 (O.indexAddr 67 E0 B0).bind fun v24 =>
 (O.store s 70 v24 v21).bind fun s25 =>
 (O.indexAddr 67 E0 v18).bind fun v26 =>
 (O.store s25 70 v26 v23).bind fun s27 =>
 (C (.fn 223) [E0,(Value.int IntKind.i64 0),x,B0] s27).bind fun L28=>manyK L28 fun v29 s30 =>
 (O.bop .sub 3 x (.int .i64 1)).bind fun v31 =>
 nx v31 s30) (
 kx 2 x s)
theorem f215_l1_b (C:OracleJ H) (n:Nat) (E0 A0 D0 B0 F0 T0 G0 I0 J0 M0 N0 P0 Q0 R0 S0:Value) (x:Value) (s:St H) (nx:List Value→St H→Rs215 H) (K:Ex→List Value→St H→Rs215 H) :
 exec prog false C n 215 none (cdp Try.f215 [1,1,1,1,1,0,0]) (f215_l1_m E0 A0 D0 B0 F0 T0 G0 I0 J0 M0 N0 P0 Q0 R0 S0 x) s (kIter (scratch (cdp Try.f215 [1,1,1,1,1,0,0])) nx K)=f215_l1 (dOps (H:=H) prog) C n E0 B0 (fun x s=>nx (f215_l1_m E0 A0 D0 B0 F0 T0 G0 I0 J0 M0 N0 P0 Q0 R0 S0 x) s) (fun i x s=>K (.exit i) (f215_l1_m E0 A0 D0 B0 F0 T0 G0 I0 J0 M0 N0 P0 Q0 R0 S0 x) s) (fun x s=>K .ret (f215_l1_m E0 A0 D0 B0 F0 T0 G0 I0 J0 M0 N0 P0 Q0 R0 S0 x) s) x s:=by kernel_rfl
theorem f215_l1_e (C:OracleJ H) (n:Nat) (E0 A0 D0 B0 F0 T0 G0 I0 J0 M0 N0 P0 Q0 R0 S0:Value) (m:Nat) (x:Value) (s:St H) (K:Ex→List Value→St H→Rs215 H) :
 iter (fun t s k=>exec prog false C n 215 none (cdp Try.f215 [1,1,1,1,1,0,0]) t s k) (scratch (cdp Try.f215 [1,1,1,1,1,0,0])) m (f215_l1_m E0 A0 D0 B0 F0 T0 G0 I0 J0 M0 N0 P0 Q0 R0 S0 x) s K=iterS (f215_l1 (dOps (H:=H) prog) C n E0 B0) (fun i x s=>K (.exit i) (f215_l1_m E0 A0 D0 B0 F0 T0 G0 I0 J0 M0 N0 P0 Q0 R0 S0 x) s) (fun x s=>K .ret (f215_l1_m E0 A0 D0 B0 F0 T0 G0 I0 J0 M0 N0 P0 Q0 R0 S0 x) s) m x s :=
   iter_eq (f215_l1_m E0 A0 D0 B0 F0 T0 G0 I0 J0 M0 N0 P0 Q0 R0 S0) (f215_l1 (dOps (H:=H) prog) C n E0 B0) (fun x s nx K=>f215_l1_b C n E0 A0 D0 B0 F0 T0 G0 I0 J0 M0 N0 P0 Q0 R0 S0 x s nx K) K m x s
noncomputable def f215 (O:Ops H) (C:OracleJ H) (n:Nat) (a0 a1 a2:Value) (s:St H):Rs215 H :=
 (O.bop .sub 3 a2 a1).bind fun v1 =>
 (O.bop .sub 3 v1 (.int .i64 1)).bind fun v2 =>
 (O.bop .quo 3 v2 (.int .i64 2)).bind fun v3 =>
 iterS (f215_l0 O C n a0 a1 v1 )
 (fun V0 x11 s12=>(bif Nat.beq V0 0 then
 (O.bop .sub 3 v1 (.int .i64 1)).bind fun v15 =>
 iterS (f215_l1 O C n a0 a1 )
 (fun W0 x33 s34=>(bif Nat.beq W0 2 then
 some [(.tuple #[],s34)] else none))
 (fun x35 s36=>some [(.tuple #[],s36)]) n v15 s12 else none))
 (fun x13 s14=>some [(.tuple #[],s14)]) n v3 s
theorem f215_l1_k (C:OracleJ H) (n:Nat) (E0 A0 D0 B0 F0 T0 G0 I0 J0 M0 N0 P0 Q0 R0 S0:Value) (i:Nat) (x:Value) (s:St H):(kBlock 2 (kFun prog Try.f215)) (.exit i) (f215_l1_m E0 A0 D0 B0 F0 T0 G0 I0 J0 M0 N0 P0 Q0 R0 S0 x) s =
 (bif Nat.beq i 2 then
 some [(.tuple #[],s)] else none):=by kernel_rfl
theorem f215_l0_k (C:OracleJ H) (n:Nat) (E0 A0 D0 B0 F0 G0 I0 J0 M0 N0 P0 Q0:Value) (i:Nat) (x:Value) (s:St H):(kBlock 0 (kSeq prog false C n 215 none (cdp Try.f215 [1,1,1,1]) (kFun prog Try.f215))) (.exit i) (f215_l0_m E0 A0 D0 B0 F0 G0 I0 J0 M0 N0 P0 Q0 x) s =
 (bif Nat.beq i 0 then
 ((dF H).bop .sub 3 F0 (.int .i64 1)).bind fun v41 =>
 iterS (f215_l1 (dOps (H:=H) prog) C n E0 B0 )
 (fun U0 x43 s44=>(bif Nat.beq U0 2 then
 some [(.tuple #[],s44)] else none))
 (fun x45 s46=>some [(.tuple #[],s46)]) n v41 s else none):=by
  have h1:(kBlock 0 (kSeq prog false C n 215 none (cdp Try.f215 [1,1,1,1]) (kFun prog Try.f215))) (.exit i) (f215_l0_m E0 A0 D0 B0 F0 G0 I0 J0 M0 N0 P0 Q0 x) s =
 (bif Nat.beq i 0 then
 ((dF H).bop .sub 3 F0 (.int .i64 1)).bind fun v40 =>
 iter (fun t s k=>exec prog false C n 215 none (cdp Try.f215 [1,1,1,1,1,0,0]) t s k) (scratch (cdp Try.f215 [1,1,1,1,1,0,0])) n (f215_l1_m E0 A0 D0 B0 F0 x G0 I0 J0 M0 N0 P0 Q0 F0 v40 v40) s (kBlock 2 (kFun prog Try.f215)) else none):=by kernel_rfl
  rw [h1]
  simp only [f215_l1_e,f215_l1_k]
  show _=(bif Nat.beq i 0 then
 ((dF H).bop .sub 3 F0 (.int .i64 1)).bind fun v41 =>
 iterS (f215_l1 (dOps (H:=H) prog) C n E0 B0 )
 (fun U0 x43 s44=>(bif Nat.beq U0 2 then
 some [(.tuple #[],s44)] else none))
 (fun x45 s46=>some [(.tuple #[],s46)]) n v41 s else none)
  kernel_rfl
theorem f215_r (C:OracleJ H) (n:Nat) (a0 a1 a2:Value) (s:St H):bodyD prog false C n 215 Try.f215 [a0,a1,a2] s=f215 (dOps (H:=H) prog) C n a0 a1 a2 s:=by
  have h1:bodyD prog false C n 215 Try.f215 [a0,a1,a2] s =
 ((dF H).bop .sub 3 a2 a1).bind fun v37 =>
 ((dF H).bop .sub 3 v37 (.int .i64 1)).bind fun v38 =>
 ((dF H).bop .quo 3 v38 (.int .i64 2)).bind fun v39 =>
 iter (fun t s k=>exec prog false C n 215 none (cdp Try.f215 [1,1,1,0,1,0,0]) t s k) (scratch (cdp Try.f215 [1,1,1,0,1,0,0])) n (f215_l0_m a0 a1 a2 a1 v37 a1 a2 a1 v37 v37 v38 v39 v39) s (kBlock 0 (kSeq prog false C n 215 none (cdp Try.f215 [1,1,1,1]) (kFun prog Try.f215))):=by kernel_rfl
  rw [h1]
  simp only [f215_l0_e,f215_l0_k]
  show _=f215 (dOps (H:=H) prog) C n a0 a1 a2 s
  kernel_rfl
end Go.Proofs.Ytmhmbmogodofeaa.S
namespace Go.Proofs.Ytmhmbmogodofeaa.S
open Go.FS Go.RowKit
open Go.Proofs.Try (prog)
abbrev Rs218 (H:HeapI):=Option (List (Value×St H))
variable {H:HeapI}
def f218_l0_m (B0 A0 E0 F0 G0 D0:Value) (x:Value×Value):List Value:=[B0,A0,E0,undefV,undefV,undefV,x.1,x.2,F0,G0,D0,dc,dc,dc,dc,dc,dc,dc,dc,dc,dc,dc,dc,dc,dc,dc,dc,dc,dc,dc,dc,dc]
noncomputable def f218_l0 (O:Ops H) (C:OracleJ H) (n:Nat) (B0:Value) (nx:(Value×Value)→St H→Rs218 H) (kx:Nat→(Value×Value)→St H→Rs218 H) (kr:(Value×Value)→St H→Rs218 H) (x:Value×Value) (s:St H):Rs218 H :=
 (O.bop .lss 3 x.1 x.2).bind fun v2 =>
 (O.boolO v2).bind fun b3=>cond b3 (
 (O.indexAddr 67 B0 x.2).bind fun v4 =>
 (O.load s 70 v4).bind fun v5 =>
 (O.indexAddr 67 B0 x.1).bind fun v6 =>
 (O.load s 70 v6).bind fun v7 =>
 (O.indexAddr 67 B0 x.1).bind fun v8 =>
 (O.store s 70 v8 v5).bind fun s9 =>
 (O.indexAddr 67 B0 x.2).bind fun v10 =>
 (O.store s9 70 v10 v7).bind fun s11 =>
 (O.bop .add 3 x.1 (.int .i64 1)).bind fun v12 =>
 (O.bop .sub 3 x.2 (.int .i64 1)).bind fun v13 =>
 nx (v12,v13) s11) (
 kx 0 (x.1,x.2) s)
theorem f218_l0_b (C:OracleJ H) (n:Nat) (B0 A0 E0 F0 G0 D0:Value) (x:Value×Value) (s:St H) (nx:List Value→St H→Rs218 H) (K:Ex→List Value→St H→Rs218 H) :
 exec prog false C n 218 none (cdp Try.f218 [1,1,0,0]) (f218_l0_m B0 A0 E0 F0 G0 D0 x) s (kIter (scratch (cdp Try.f218 [1,1,0,0])) nx K)=f218_l0 (dOps (H:=H) prog) C n B0 (fun x s=>nx (f218_l0_m B0 A0 E0 F0 G0 D0 x) s) (fun i x s=>K (.exit i) (f218_l0_m B0 A0 E0 F0 G0 D0 x) s) (fun x s=>K .ret (f218_l0_m B0 A0 E0 F0 G0 D0 x) s) x s:=by kernel_rfl
theorem f218_l0_e (C:OracleJ H) (n:Nat) (B0 A0 E0 F0 G0 D0:Value) (m:Nat) (x:Value×Value) (s:St H) (K:Ex→List Value→St H→Rs218 H) :
 iter (fun t s k=>exec prog false C n 218 none (cdp Try.f218 [1,1,0,0]) t s k) (scratch (cdp Try.f218 [1,1,0,0])) m (f218_l0_m B0 A0 E0 F0 G0 D0 x) s K=iterS (f218_l0 (dOps (H:=H) prog) C n B0) (fun i x s=>K (.exit i) (f218_l0_m B0 A0 E0 F0 G0 D0 x) s) (fun x s=>K .ret (f218_l0_m B0 A0 E0 F0 G0 D0 x) s) m x s :=
   iter_eq (f218_l0_m B0 A0 E0 F0 G0 D0) (f218_l0 (dOps (H:=H) prog) C n B0) (fun x s nx K=>f218_l0_b C n B0 A0 E0 F0 G0 D0 x s nx K) K m x s
noncomputable def f218 (O:Ops H) (C:OracleJ H) (n:Nat) (a0 a1 a2:Value) (s:St H):Rs218 H :=
 (O.bop .sub 3 a2 (.int .i64 1)).bind fun v1 =>
 iterS (f218_l0 O C n a0 )
 (fun I0 x15 s16=>(bif Nat.beq I0 0 then
 some [(.tuple #[],s16)] else none))
 (fun x17 s18=>some [(.tuple #[],s18)]) n (a1,v1) s
theorem f218_l0_k (C:OracleJ H) (n:Nat) (B0 A0 E0 F0 G0 D0:Value) (i:Nat) (x:Value×Value) (s:St H):(kBlock 0 (kFun prog Try.f218)) (.exit i) (f218_l0_m B0 A0 E0 F0 G0 D0 x) s =
 (bif Nat.beq i 0 then
 some [(.tuple #[],s)] else none):=by kernel_rfl
theorem f218_r (C:OracleJ H) (n:Nat) (a0 a1 a2:Value) (s:St H):bodyD prog false C n 218 Try.f218 [a0,a1,a2] s=f218 (dOps (H:=H) prog) C n a0 a1 a2 s:=by
  have h1:bodyD prog false C n 218 Try.f218 [a0,a1,a2] s =
 ((dF H).bop .sub 3 a2 (.int .i64 1)).bind fun v19 =>
 iter (fun t s k=>exec prog false C n 218 none (cdp Try.f218 [1,1,0,0]) t s k) (scratch (cdp Try.f218 [1,1,0,0])) n (f218_l0_m a0 a1 a2 a1 a2 v19 (a1,v19)) s (kBlock 0 (kFun prog Try.f218)):=by kernel_rfl
  rw [h1]
  simp only [f218_l0_e,f218_l0_k]
  show _=f218 (dOps (H:=H) prog) C n a0 a1 a2 s
  kernel_rfl
end Go.Proofs.Ytmhmbmogodofeaa.S
namespace Go.Proofs.Ytmhmbmogodofeaa.S
open Go.FS Go.RowKit
open Go.Proofs.Try (prog)
variable {H:HeapI}
noncomputable def f227 (O:Ops H) (C:OracleJ H) (n:Nat) (a0:Value) (a1:Value) (a2:Value) (a3:Value) (s:St H):Option (List (Value×St H)) :=
 (O.indexAddr 67 a0 a2).bind fun v1 =>
 (O.load s 70 v1).bind fun v2 =>
 (O.indexAddr 67 a0 a1).bind fun v3 =>
 (O.load s 70 v3).bind fun v4 =>
 (oneO C (.fn 220) [v2,v4] s).bind fun p5 =>
 (O.boolO p5.1).bind fun b6=>cond b6 (
 (O.nilCheck a3).bind fun v7 =>
 (O.load p5.2 3 v7).bind fun v8 =>
 (O.bop .add 3 v8 (.int .i64 1)).bind fun v9 =>
 (O.nilCheck a3).bind fun v10 =>
 (O.store p5.2 3 v10 v9).bind fun s11 =>
 some [(.tuple #[a2,a1],s11)]) (
 some [(.tuple #[a1,a2],p5.2)])
theorem f227_r (C:OracleJ H) (n:Nat) (a0:Value) (a1:Value) (a2:Value) (a3:Value) (s:St H):bodyD prog false C n 227 Try.f227 [a0,a1,a2,a3] s=f227 (dOps (H:=H) prog) C n a0 a1 a2 a3 s:=by kernel_rfl
end Go.Proofs.Ytmhmbmogodofeaa.S
namespace Go.Proofs.Ytmhmbmogodofeaa.S
open Go.FS Go.RowKit
open Go.Proofs.Try (prog)
variable {H:HeapI}
noncomputable def f225 (O:Ops H) (C:OracleJ H) (n:Nat) (a0:Value) (a1:Value) (a2:Value) (a3:Value) (a4:Value) (s:St H):Option (List (Value×St H)) :=
 (C (.fn 227) [a0,a1,a2,a4] s).bind fun L1=>manyK L1 fun v2 s3 =>
 (O.extract v2 0).bind fun v4 =>
 (O.extract v2 1).bind fun v5 =>
 (C (.fn 227) [a0,v5,a3,a4] s3).bind fun L6=>manyK L6 fun v7 s8 =>
 (O.extract v7 0).bind fun v9 =>
 (O.extract v7 1).bind fun v10 =>
 (C (.fn 227) [a0,v4,v9,a4] s8).bind fun L11=>manyK L11 fun v12 s13 =>
 (O.extract v12 0).bind fun v14 =>
 (O.extract v12 1).bind fun v15 =>
 some [(v15,s13)]
theorem f225_r (C:OracleJ H) (n:Nat) (a0:Value) (a1:Value) (a2:Value) (a3:Value) (a4:Value) (s:St H):bodyD prog false C n 225 Try.f225 [a0,a1,a2,a3,a4] s=f225 (dOps (H:=H) prog) C n a0 a1 a2 a3 a4 s:=by kernel_rfl
end Go.Proofs.Ytmhmbmogodofeaa.S
namespace Go.Proofs.Ytmhmbmogodofeaa.S
open Go.FS Go.RowKit
open Go.Proofs.Try (prog)
variable {H:HeapI}
noncomputable def f224 (O:Ops H) (C:OracleJ H) (n:Nat) (a0:Value) (a1:Value) (a2:Value) (s:St H):Option (List (Value×St H)) :=
 (O.bop .sub 3 a1 (.int .i64 1)).bind fun v1 =>
 (O.bop .add 3 a1 (.int .i64 1)).bind fun v2 =>
 (C (.fn 225) [a0,v1,a1,v2,a2] s).bind fun L3=>manyK L3 fun v4 s5 =>
 some [(v4,s5)]
theorem f224_r (C:OracleJ H) (n:Nat) (a0:Value) (a1:Value) (a2:Value) (s:St H):bodyD prog false C n 224 Try.f224 [a0,a1,a2] s=f224 (dOps (H:=H) prog) C n a0 a1 a2 s:=by kernel_rfl
end Go.Proofs.Ytmhmbmogodofeaa.S
namespace Go.Proofs.Ytmhmbmogodofeaa.S
open Go.FS Go.RowKit
open Go.Proofs.Try (prog)
variable {H:HeapI}
noncomputable def f217 (O:Ops H) (C:OracleJ H) (n:Nat) (a0 a1 a2:Value) (s:St H):Option (List (Value×St H)) :=
 (O.bop .sub 3 a2 a1).bind fun v1 =>
 (O.alloc s 3).bind fun p2 =>
 (O.bop .quo 3 v1 (.int .i64 4)).bind fun v3 =>
 (O.bop .mul 3 v3 (.int .i64 1)).bind fun v4 =>
 (O.bop .add 3 a1 v4).bind fun v5 =>
 (O.bop .quo 3 v1 (.int .i64 4)).bind fun v6 =>
 (O.bop .mul 3 v6 (.int .i64 2)).bind fun v7 =>
 (O.bop .add 3 a1 v7).bind fun v8 =>
 (O.bop .quo 3 v1 (.int .i64 4)).bind fun v9 =>
 (O.bop .mul 3 v9 (.int .i64 3)).bind fun v10 =>
 (O.bop .add 3 a1 v10).bind fun v11 =>
 (O.bop .geq 3 v1 (.int .i64 8)).bind fun v12 =>
 jn (fun (j8_11:Value) (js8:St H) =>
 (O.load js8 3 p2.1).bind fun v36 =>
 (O.bop .eql 3 v36 (.int .i64 0)).bind fun v37 =>
 (O.boolO v37).bind fun b38=>cond b38 (
 some [(.tuple #[j8_11,(Value.int IntKind.i64 1)],js8)]) (
 (O.bop .eql 3 v36 (.int .i64 12)).bind fun v39 =>
 (O.boolO v39).bind fun b40=>cond b40 (
 some [(.tuple #[j8_11,(Value.int IntKind.i64 2)],js8)]) (
 some [(.tuple #[j8_11,(Value.int IntKind.i64 0)],js8)]))) fun k8 =>
 (O.boolO v12).bind fun b13=>cond b13 (
 (O.bop .geq 3 v1 (.int .i64 50)).bind fun v14 =>
 jn (fun (j10_10:Value) (j10_11:Value) (j10_12:Value) (js10:St H) =>
 (C (.fn 225) [a0,j10_10,j10_11,j10_12,p2.1] js10).bind fun L28=>manyK L28 fun v29 s30 =>
 k8 v29 s30) fun k10 =>
 (O.boolO v14).bind fun b15=>cond b15 (
 (C (.fn 224) [a0,v5,p2.1] p2.2).bind fun L16=>manyK L16 fun v17 s18 =>
 (C (.fn 224) [a0,v8,p2.1] s18).bind fun L19=>manyK L19 fun v20 s21 =>
 (C (.fn 224) [a0,v11,p2.1] s21).bind fun L22=>manyK L22 fun v23 s24 =>
 k10 v17 v20 v23 s24) (
 k10 v5 v8 v11 p2.2)) (
 k8 v8 p2.2)
theorem f217_r (C:OracleJ H) (n:Nat) (a0 a1 a2:Value) (s:St H):bodyD prog false C n 217 Try.f217 [a0,a1,a2] s=f217 (dOps (H:=H) prog) C n a0 a1 a2 s:=by kernel_rfl
end Go.Proofs.Ytmhmbmogodofeaa.S
namespace Go.Proofs.Ytmhmbmogodofeaa.S
open Go.FS Go.RowKit
open Go.Proofs.Try (prog)
abbrev Rs221 (H:HeapI):=Option (List (Value×St H))
variable {H:HeapI}
def f221_l1_m (D0 A0 B0 F0 B1 G0 I0 J0 M0 N0 P0 Q0 R0 S0 T0 U0 E0 V0 W0 X0 Y0 Z0 A1:Value) (x:Value):List Value:=[D0,A0,B0,F0,undefV,undefV,undefV,undefV,(Value.int IntKind.i64 0),x,B1,G0,I0,J0,M0,N0,P0,Q0,R0,S0,T0,U0,E0,V0,W0,X0,Y0,Z0,A1,dc,dc,dc,dc,dc,dc,dc,dc,dc,dc,dc,dc,dc,dc,dc,dc,dc,dc,dc,dc,dc,dc,dc,dc,dc,dc,dc,dc,dc,dc,dc,dc,dc,dc,dc,dc,dc,dc,dc,dc,dc,dc,dc,dc,dc,dc,dc,dc,dc,dc,dc,dc,dc,dc,undefV]
noncomputable def f221_l1 (O:Ops H) (C:OracleJ H) (n:Nat) (D0 A0 B1:Value) (nx:Value→St H→Rs221 H) (kx:Nat→Value→St H→Rs221 H) (kr:Value→St H→Rs221 H) (x:Value) (s:St H):Rs221 H :=
 jn (fun (j7_43:Value) (js7:St H) =>
 (O.boolO j7_43).bind fun b20=>cond b20 (
 (O.bop .add 3 x (.int .i64 1)).bind fun v21 =>
 nx v21 js7) (
 kx 2 x js7)) fun k7 =>
 (O.bop .leq 3 x B1).bind fun v11 =>
 gd v11 (
 (O.indexAddr 67 D0 A0).bind fun v12 =>
 (O.load s 70 v12).bind fun v13 =>
 (O.indexAddr 67 D0 x).bind fun v14 =>
 (O.load s 70 v14).bind fun v15 =>
 (oneO C (.fn 220) [v13,v15] s).bind fun p16 =>
 (O.uop .not p16.1).bind fun v17 =>
 k7 v17 p16.2) (
 k7 (.bool false) s) (
 none)
theorem f221_l1_b (C:OracleJ H) (n:Nat) (D0 A0 B0 F0 B1 G0 I0 J0 M0 N0 P0 Q0 R0 S0 T0 U0 E0 V0 W0 X0 Y0 Z0 A1:Value) (x:Value) (s:St H) (nx:List Value→St H→Rs221 H) (K:Ex→List Value→St H→Rs221 H) :
 exec prog false C n 221 none (cdp Try.f221 [1,1,1,0,0,0,0,0,0,0]) (f221_l1_m D0 A0 B0 F0 B1 G0 I0 J0 M0 N0 P0 Q0 R0 S0 T0 U0 E0 V0 W0 X0 Y0 Z0 A1 x) s (kIter (scratch (cdp Try.f221 [1,1,1,0,0,0,0,0,0,0])) nx K)=f221_l1 (dOps (H:=H) prog) C n D0 A0 B1 (fun x s=>nx (f221_l1_m D0 A0 B0 F0 B1 G0 I0 J0 M0 N0 P0 Q0 R0 S0 T0 U0 E0 V0 W0 X0 Y0 Z0 A1 x) s) (fun i x s=>K (.exit i) (f221_l1_m D0 A0 B0 F0 B1 G0 I0 J0 M0 N0 P0 Q0 R0 S0 T0 U0 E0 V0 W0 X0 Y0 Z0 A1 x) s) (fun x s=>K .ret (f221_l1_m D0 A0 B0 F0 B1 G0 I0 J0 M0 N0 P0 Q0 R0 S0 T0 U0 E0 V0 W0 X0 Y0 Z0 A1 x) s) x s:=by kernel_rfl
theorem f221_l1_e (C:OracleJ H) (n:Nat) (D0 A0 B0 F0 B1 G0 I0 J0 M0 N0 P0 Q0 R0 S0 T0 U0 E0 V0 W0 X0 Y0 Z0 A1:Value) (m:Nat) (x:Value) (s:St H) (K:Ex→List Value→St H→Rs221 H) :
 iter (fun t s k=>exec prog false C n 221 none (cdp Try.f221 [1,1,1,0,0,0,0,0,0,0]) t s k) (scratch (cdp Try.f221 [1,1,1,0,0,0,0,0,0,0])) m (f221_l1_m D0 A0 B0 F0 B1 G0 I0 J0 M0 N0 P0 Q0 R0 S0 T0 U0 E0 V0 W0 X0 Y0 Z0 A1 x) s K=iterS (f221_l1 (dOps (H:=H) prog) C n D0 A0 B1) (fun i x s=>K (.exit i) (f221_l1_m D0 A0 B0 F0 B1 G0 I0 J0 M0 N0 P0 Q0 R0 S0 T0 U0 E0 V0 W0 X0 Y0 Z0 A1 x) s) (fun x s=>K .ret (f221_l1_m D0 A0 B0 F0 B1 G0 I0 J0 M0 N0 P0 Q0 R0 S0 T0 U0 E0 V0 W0 X0 Y0 Z0 A1 x) s) m x s :=
   iter_eq (f221_l1_m D0 A0 B0 F0 B1 G0 I0 J0 M0 N0 P0 Q0 R0 S0 T0 U0 E0 V0 W0 X0 Y0 Z0 A1) (f221_l1 (dOps (H:=H) prog) C n D0 A0 B1) (fun x s nx K=>f221_l1_b C n D0 A0 B0 F0 B1 G0 I0 J0 M0 N0 P0 Q0 R0 S0 T0 U0 E0 V0 W0 X0 Y0 Z0 A1 x s nx K) K m x s
def f221_l2_m (D0 A0 B0 F0 D1 G0 I0 J0 M0 N0 P0 Q0 R0 S0 T0 U0 E0 V0 W0 X0 Y0 Z0 A1:Value) (x:Value):List Value:=[D0,A0,B0,F0,undefV,undefV,undefV,undefV,(Value.int IntKind.i64 0),D1,x,G0,I0,J0,M0,N0,P0,Q0,R0,S0,T0,U0,E0,V0,W0,X0,Y0,Z0,A1,dc,dc,dc,dc,dc,dc,dc,dc,dc,dc,dc,dc,dc,dc,dc,dc,dc,dc,dc,dc,dc,dc,dc,dc,dc,dc,dc,dc,dc,dc,dc,dc,dc,dc,dc,dc,dc,dc,dc,dc,dc,dc,dc,dc,dc,dc,dc,dc,dc,dc,dc,dc,dc,dc,undefV]
noncomputable def f221_l2 (O:Ops H) (C:OracleJ H) (n:Nat) (D0 A0 D1:Value) (nx:Value→St H→Rs221 H) (kx:Nat→Value→St H→Rs221 H) (kr:Value→St H→Rs221 H) (x:Value) (s:St H):Rs221 H :=
 jn (fun (j15_59:Value) (js15:St H) =>
 (O.boolO j15_59).bind fun b35=>cond b35 (
 (O.bop .sub 3 x (.int .i64 1)).bind fun v36 =>
 nx v36 js15) (
 kx 4 x js15)) fun k15 =>
 (O.bop .leq 3 D1 x).bind fun v27 =>
 gd v27 (
 (O.indexAddr 67 D0 A0).bind fun v28 =>
 (O.load s 70 v28).bind fun v29 =>
 (O.indexAddr 67 D0 x).bind fun v30 =>
 (O.load s 70 v30).bind fun v31 =>
 (oneO C (.fn 220) [v29,v31] s).bind fun p32 =>
 k15 p32.1 p32.2) (
 k15 (.bool false) s) (
 none)
theorem f221_l2_b (C:OracleJ H) (n:Nat) (D0 A0 B0 F0 D1 G0 I0 J0 M0 N0 P0 Q0 R0 S0 T0 U0 E0 V0 W0 X0 Y0 Z0 A1:Value) (x:Value) (s:St H) (nx:List Value→St H→Rs221 H) (K:Ex→List Value→St H→Rs221 H) :
 exec prog false C n 221 none (cdp Try.f221 [1,1,1,0,0,0,0,1,0,0,0]) (f221_l2_m D0 A0 B0 F0 D1 G0 I0 J0 M0 N0 P0 Q0 R0 S0 T0 U0 E0 V0 W0 X0 Y0 Z0 A1 x) s (kIter (scratch (cdp Try.f221 [1,1,1,0,0,0,0,1,0,0,0])) nx K)=f221_l2 (dOps (H:=H) prog) C n D0 A0 D1 (fun x s=>nx (f221_l2_m D0 A0 B0 F0 D1 G0 I0 J0 M0 N0 P0 Q0 R0 S0 T0 U0 E0 V0 W0 X0 Y0 Z0 A1 x) s) (fun i x s=>K (.exit i) (f221_l2_m D0 A0 B0 F0 D1 G0 I0 J0 M0 N0 P0 Q0 R0 S0 T0 U0 E0 V0 W0 X0 Y0 Z0 A1 x) s) (fun x s=>K .ret (f221_l2_m D0 A0 B0 F0 D1 G0 I0 J0 M0 N0 P0 Q0 R0 S0 T0 U0 E0 V0 W0 X0 Y0 Z0 A1 x) s) x s:=by kernel_rfl
theorem f221_l2_e (C:OracleJ H) (n:Nat) (D0 A0 B0 F0 D1 G0 I0 J0 M0 N0 P0 Q0 R0 S0 T0 U0 E0 V0 W0 X0 Y0 Z0 A1:Value) (m:Nat) (x:Value) (s:St H) (K:Ex→List Value→St H→Rs221 H) :
 iter (fun t s k=>exec prog false C n 221 none (cdp Try.f221 [1,1,1,0,0,0,0,1,0,0,0]) t s k) (scratch (cdp Try.f221 [1,1,1,0,0,0,0,1,0,0,0])) m (f221_l2_m D0 A0 B0 F0 D1 G0 I0 J0 M0 N0 P0 Q0 R0 S0 T0 U0 E0 V0 W0 X0 Y0 Z0 A1 x) s K=iterS (f221_l2 (dOps (H:=H) prog) C n D0 A0 D1) (fun i x s=>K (.exit i) (f221_l2_m D0 A0 B0 F0 D1 G0 I0 J0 M0 N0 P0 Q0 R0 S0 T0 U0 E0 V0 W0 X0 Y0 Z0 A1 x) s) (fun x s=>K .ret (f221_l2_m D0 A0 B0 F0 D1 G0 I0 J0 M0 N0 P0 Q0 R0 S0 T0 U0 E0 V0 W0 X0 Y0 Z0 A1 x) s) m x s :=
   iter_eq (f221_l2_m D0 A0 B0 F0 D1 G0 I0 J0 M0 N0 P0 Q0 R0 S0 T0 U0 E0 V0 W0 X0 Y0 Z0 A1) (f221_l2 (dOps (H:=H) prog) C n D0 A0 D1) (fun x s nx K=>f221_l2_b C n D0 A0 B0 F0 D1 G0 I0 J0 M0 N0 P0 Q0 R0 S0 T0 U0 E0 V0 W0 X0 Y0 Z0 A1 x s nx K) K m x s
def f221_l0_m (D0 A0 B0 F0 G0 I0 J0 M0 N0 P0 Q0 R0 S0 T0 U0 E0 V0 W0 X0 Y0 Z0 A1:Value) (x:Value×Value):List Value:=[D0,A0,B0,F0,undefV,undefV,undefV,undefV,(Value.int IntKind.i64 0),x.1,x.2,G0,I0,J0,M0,N0,P0,Q0,R0,S0,T0,U0,E0,V0,W0,X0,Y0,Z0,A1,dc,dc,dc,dc,dc,dc,dc,dc,dc,dc,dc,dc,dc,dc,dc,dc,dc,dc,dc,dc,dc,dc,dc,dc,dc,dc,dc,dc,dc,dc,dc,dc,dc,dc,dc,dc,dc,dc,dc,dc,dc,dc,dc,dc,dc,dc,dc,dc,dc,dc,dc,dc,dc,dc,undefV]
noncomputable def f221_l0 (O:Ops H) (C:OracleJ H) (n:Nat) (D0 A0 E0:Value) (nx:(Value×Value)→St H→Rs221 H) (kx:Nat→(Value×Value)→St H→Rs221 H) (kr:(Value×Value)→St H→Rs221 H) (x:Value×Value) (s:St H):Rs221 H :=
 iterS (f221_l1 O C n D0 A0 x.2 )
 (fun E0 x23 s24=>(bif Nat.beq E0 2 then
 iterS (f221_l2 O C n D0 A0 x23 )
 (fun F1 x38 s39=>(bif Nat.beq F1 4 then
 (O.bop .gtr 3 x23 x38).bind fun v42 =>
 (O.boolO v42).bind fun b43=>cond b43 (
 kx 0 (x23,x38) s39) (
 (O.indexAddr 67 D0 x38).bind fun v44 =>
 (O.load s39 70 v44).bind fun v45 =>
 (O.indexAddr 67 D0 x23).bind fun v46 =>
 (O.load s39 70 v46).bind fun v47 =>
 (O.indexAddr 67 D0 x23).bind fun v48 =>
 (O.store s39 70 v48 v45).bind fun s49 =>
 (O.indexAddr 67 D0 x38).bind fun v50 =>
 (O.store s49 70 v50 v47).bind fun s51 =>
 (O.bop .add 3 x23 (.int .i64 1)).bind fun v52 =>
 (O.bop .sub 3 x38 (.int .i64 1)).bind fun v53 =>
 nx (v52,v53) s51) else (bif Nat.beq F1 1 then
 nx (x23,x38) s39 else kx F1 (x23,x38) s39)))
 (fun x40 s41=>kr (x23,x40) s41) n x.2 s24 else (bif Nat.beq E0 1 then
 nx (x23,x.2) s24 else kx E0 (x23,x.2) s24)))
 (fun x25 s26=>kr (x25,x.2) s26) n x.1 s
theorem f221_l2_k (C:OracleJ H) (n:Nat) (D0 A0 B0 F0 D1 G0 I0 J0 M0 N0 P0 Q0 R0 S0 T0 U0 E0 V0 W0 X0 Y0 Z0 A1:Value) (nx:List Value→St H→Rs221 H) (K:Ex→List Value→St H→Rs221 H) (i:Nat) (x:Value) (s:St H):(kBlock 4 (kSeq prog false C n 221 none (cdp Try.f221 [1,1,1,0,0,0,0,1,1]) (kBlock 1 (kIter (scratch (cdp Try.f221 [1,1,1,0,0,0])) nx K)))) (.exit i) (f221_l2_m D0 A0 B0 F0 D1 G0 I0 J0 M0 N0 P0 Q0 R0 S0 T0 U0 E0 V0 W0 X0 Y0 Z0 A1 x) s =
 (bif Nat.beq i 4 then
 ((dF H).bop .gtr 3 D1 x).bind fun v66 =>
 ((dF H).boolO v66).bind fun b67=>cond b67 (
 K (.exit 0) (f221_l0_m D0 A0 B0 F0 G0 I0 J0 M0 N0 P0 Q0 R0 S0 T0 U0 E0 V0 W0 X0 Y0 Z0 A1 (D1,x)) s) (
 ((dF H).indexAddr 67 D0 x).bind fun v68 =>
 ((dF H).load s 70 v68).bind fun v69 =>
 ((dF H).indexAddr 67 D0 D1).bind fun v70 =>
 ((dF H).load s 70 v70).bind fun v71 =>
 ((dF H).indexAddr 67 D0 D1).bind fun v72 =>
 ((dF H).store s 70 v72 v69).bind fun s73 =>
 ((dF H).indexAddr 67 D0 x).bind fun v74 =>
 ((dF H).store s73 70 v74 v71).bind fun s75 =>
 ((dF H).bop .add 3 D1 (.int .i64 1)).bind fun v76 =>
 ((dF H).bop .sub 3 x (.int .i64 1)).bind fun v77 =>
 nx (f221_l0_m D0 A0 B0 F0 G0 I0 J0 M0 N0 P0 Q0 R0 S0 T0 U0 E0 V0 W0 X0 Y0 Z0 A1 (v76,v77)) s75) else (bif Nat.beq i 1 then
 nx (f221_l0_m D0 A0 B0 F0 G0 I0 J0 M0 N0 P0 Q0 R0 S0 T0 U0 E0 V0 W0 X0 Y0 Z0 A1 (D1,x)) s else K (.exit i) (f221_l0_m D0 A0 B0 F0 G0 I0 J0 M0 N0 P0 Q0 R0 S0 T0 U0 E0 V0 W0 X0 Y0 Z0 A1 (D1,x)) s)):=by kernel_rfl
theorem f221_l1_k (C:OracleJ H) (n:Nat) (D0 A0 B0 F0 B1 G0 I0 J0 M0 N0 P0 Q0 R0 S0 T0 U0 E0 V0 W0 X0 Y0 Z0 A1:Value) (nx:List Value→St H→Rs221 H) (K:Ex→List Value→St H→Rs221 H) (i:Nat) (x:Value) (s:St H):(kBlock 2 (kSeq prog false C n 221 none (cdp Try.f221 [1,1,1,0,0,0,0,1]) (kBlock 1 (kIter (scratch (cdp Try.f221 [1,1,1,0,0,0])) nx K)))) (.exit i) (f221_l1_m D0 A0 B0 F0 B1 G0 I0 J0 M0 N0 P0 Q0 R0 S0 T0 U0 E0 V0 W0 X0 Y0 Z0 A1 x) s =
 (bif Nat.beq i 2 then
 iterS (f221_l2 (dOps (H:=H) prog) C n D0 A0 x )
 (fun E1 x79 s80=>(bif Nat.beq E1 4 then
 ((dF H).bop .gtr 3 x x79).bind fun v83 =>
 ((dF H).boolO v83).bind fun b84=>cond b84 (
 K (.exit 0) (f221_l0_m D0 A0 B0 F0 G0 I0 J0 M0 N0 P0 Q0 R0 S0 T0 U0 E0 V0 W0 X0 Y0 Z0 A1 (x,x79)) s80) (
 ((dF H).indexAddr 67 D0 x79).bind fun v85 =>
 ((dF H).load s80 70 v85).bind fun v86 =>
 ((dF H).indexAddr 67 D0 x).bind fun v87 =>
 ((dF H).load s80 70 v87).bind fun v88 =>
 ((dF H).indexAddr 67 D0 x).bind fun v89 =>
 ((dF H).store s80 70 v89 v86).bind fun s90 =>
 ((dF H).indexAddr 67 D0 x79).bind fun v91 =>
 ((dF H).store s90 70 v91 v88).bind fun s92 =>
 ((dF H).bop .add 3 x (.int .i64 1)).bind fun v93 =>
 ((dF H).bop .sub 3 x79 (.int .i64 1)).bind fun v94 =>
 nx (f221_l0_m D0 A0 B0 F0 G0 I0 J0 M0 N0 P0 Q0 R0 S0 T0 U0 E0 V0 W0 X0 Y0 Z0 A1 (v93,v94)) s92) else (bif Nat.beq E1 1 then
 nx (f221_l0_m D0 A0 B0 F0 G0 I0 J0 M0 N0 P0 Q0 R0 S0 T0 U0 E0 V0 W0 X0 Y0 Z0 A1 (x,x79)) s80 else K (.exit E1) (f221_l0_m D0 A0 B0 F0 G0 I0 J0 M0 N0 P0 Q0 R0 S0 T0 U0 E0 V0 W0 X0 Y0 Z0 A1 (x,x79)) s80)))
 (fun x81 s82=>K .ret (f221_l0_m D0 A0 B0 F0 G0 I0 J0 M0 N0 P0 Q0 R0 S0 T0 U0 E0 V0 W0 X0 Y0 Z0 A1 (x,x81)) s82) n B1 s else (bif Nat.beq i 1 then
 nx (f221_l0_m D0 A0 B0 F0 G0 I0 J0 M0 N0 P0 Q0 R0 S0 T0 U0 E0 V0 W0 X0 Y0 Z0 A1 (x,B1)) s else K (.exit i) (f221_l0_m D0 A0 B0 F0 G0 I0 J0 M0 N0 P0 Q0 R0 S0 T0 U0 E0 V0 W0 X0 Y0 Z0 A1 (x,B1)) s)):=by
  have h1:(kBlock 2 (kSeq prog false C n 221 none (cdp Try.f221 [1,1,1,0,0,0,0,1]) (kBlock 1 (kIter (scratch (cdp Try.f221 [1,1,1,0,0,0])) nx K)))) (.exit i) (f221_l1_m D0 A0 B0 F0 B1 G0 I0 J0 M0 N0 P0 Q0 R0 S0 T0 U0 E0 V0 W0 X0 Y0 Z0 A1 x) s =
 (bif Nat.beq i 2 then
 iter (fun t s k=>exec prog false C n 221 none (cdp Try.f221 [1,1,1,0,0,0,0,1,0,0,0]) t s k) (scratch (cdp Try.f221 [1,1,1,0,0,0,0,1,0,0,0])) n (f221_l2_m D0 A0 B0 F0 x G0 I0 J0 M0 N0 P0 Q0 R0 S0 T0 U0 E0 V0 W0 X0 Y0 Z0 A1 B1) s (kBlock 4 (kSeq prog false C n 221 none (cdp Try.f221 [1,1,1,0,0,0,0,1,1]) (kBlock 1 (kIter (scratch (cdp Try.f221 [1,1,1,0,0,0])) nx K)))) else (bif Nat.beq i 1 then
 nx (f221_l0_m D0 A0 B0 F0 G0 I0 J0 M0 N0 P0 Q0 R0 S0 T0 U0 E0 V0 W0 X0 Y0 Z0 A1 (x,B1)) s else K (.exit i) (f221_l0_m D0 A0 B0 F0 G0 I0 J0 M0 N0 P0 Q0 R0 S0 T0 U0 E0 V0 W0 X0 Y0 Z0 A1 (x,B1)) s)):=by kernel_rfl
  rw [h1]
  simp only [f221_l2_e,f221_l2_k]
  show _=(bif Nat.beq i 2 then
 iterS (f221_l2 (dOps (H:=H) prog) C n D0 A0 x )
 (fun E1 x79 s80=>(bif Nat.beq E1 4 then
 ((dF H).bop .gtr 3 x x79).bind fun v83 =>
 ((dF H).boolO v83).bind fun b84=>cond b84 (
 K (.exit 0) (f221_l0_m D0 A0 B0 F0 G0 I0 J0 M0 N0 P0 Q0 R0 S0 T0 U0 E0 V0 W0 X0 Y0 Z0 A1 (x,x79)) s80) (
 ((dF H).indexAddr 67 D0 x79).bind fun v85 =>
 ((dF H).load s80 70 v85).bind fun v86 =>
 ((dF H).indexAddr 67 D0 x).bind fun v87 =>
 ((dF H).load s80 70 v87).bind fun v88 =>
 ((dF H).indexAddr 67 D0 x).bind fun v89 =>
 ((dF H).store s80 70 v89 v86).bind fun s90 =>
 ((dF H).indexAddr 67 D0 x79).bind fun v91 =>
 ((dF H).store s90 70 v91 v88).bind fun s92 =>
 ((dF H).bop .add 3 x (.int .i64 1)).bind fun v93 =>
 ((dF H).bop .sub 3 x79 (.int .i64 1)).bind fun v94 =>
 nx (f221_l0_m D0 A0 B0 F0 G0 I0 J0 M0 N0 P0 Q0 R0 S0 T0 U0 E0 V0 W0 X0 Y0 Z0 A1 (v93,v94)) s92) else (bif Nat.beq E1 1 then
 nx (f221_l0_m D0 A0 B0 F0 G0 I0 J0 M0 N0 P0 Q0 R0 S0 T0 U0 E0 V0 W0 X0 Y0 Z0 A1 (x,x79)) s80 else K (.exit E1) (f221_l0_m D0 A0 B0 F0 G0 I0 J0 M0 N0 P0 Q0 R0 S0 T0 U0 E0 V0 W0 X0 Y0 Z0 A1 (x,x79)) s80)))
 (fun x81 s82=>K .ret (f221_l0_m D0 A0 B0 F0 G0 I0 J0 M0 N0 P0 Q0 R0 S0 T0 U0 E0 V0 W0 X0 Y0 Z0 A1 (x,x81)) s82) n B1 s else (bif Nat.beq i 1 then
 nx (f221_l0_m D0 A0 B0 F0 G0 I0 J0 M0 N0 P0 Q0 R0 S0 T0 U0 E0 V0 W0 X0 Y0 Z0 A1 (x,B1)) s else K (.exit i) (f221_l0_m D0 A0 B0 F0 G0 I0 J0 M0 N0 P0 Q0 R0 S0 T0 U0 E0 V0 W0 X0 Y0 Z0 A1 (x,B1)) s))
  kernel_rfl
theorem f221_l0_b (C:OracleJ H) (n:Nat) (D0 A0 B0 F0 G0 I0 J0 M0 N0 P0 Q0 R0 S0 T0 U0 E0 V0 W0 X0 Y0 Z0 A1:Value) (x:Value×Value) (s:St H) (nx:List Value→St H→Rs221 H) (K:Ex→List Value→St H→Rs221 H) :
 exec prog false C n 221 none (cdp Try.f221 [1,1,1,0,0,0]) (f221_l0_m D0 A0 B0 F0 G0 I0 J0 M0 N0 P0 Q0 R0 S0 T0 U0 E0 V0 W0 X0 Y0 Z0 A1 x) s (kIter (scratch (cdp Try.f221 [1,1,1,0,0,0])) nx K)=f221_l0 (dOps (H:=H) prog) C n D0 A0 E0 (fun x s=>nx (f221_l0_m D0 A0 B0 F0 G0 I0 J0 M0 N0 P0 Q0 R0 S0 T0 U0 E0 V0 W0 X0 Y0 Z0 A1 x) s) (fun i x s=>K (.exit i) (f221_l0_m D0 A0 B0 F0 G0 I0 J0 M0 N0 P0 Q0 R0 S0 T0 U0 E0 V0 W0 X0 Y0 Z0 A1 x) s) (fun x s=>K .ret (f221_l0_m D0 A0 B0 F0 G0 I0 J0 M0 N0 P0 Q0 R0 S0 T0 U0 E0 V0 W0 X0 Y0 Z0 A1 x) s) x s:=by
  have h1:exec prog false C n 221 none (cdp Try.f221 [1,1,1,0,0,0]) (f221_l0_m D0 A0 B0 F0 G0 I0 J0 M0 N0 P0 Q0 R0 S0 T0 U0 E0 V0 W0 X0 Y0 Z0 A1 x) s (kIter (scratch (cdp Try.f221 [1,1,1,0,0,0])) nx K) =
 iter (fun t s k=>exec prog false C n 221 none (cdp Try.f221 [1,1,1,0,0,0,0,0,0,0]) t s k) (scratch (cdp Try.f221 [1,1,1,0,0,0,0,0,0,0])) n (f221_l1_m D0 A0 B0 F0 x.2 G0 I0 J0 M0 N0 P0 Q0 R0 S0 T0 U0 E0 V0 W0 X0 Y0 Z0 A1 x.1) s (kBlock 2 (kSeq prog false C n 221 none (cdp Try.f221 [1,1,1,0,0,0,0,1]) (kBlock 1 (kIter (scratch (cdp Try.f221 [1,1,1,0,0,0])) nx K)))):=by kernel_rfl
  rw [h1]
  simp only [f221_l1_e,f221_l1_k]
  show _=f221_l0 (dOps (H:=H) prog) C n D0 A0 E0 (fun x s=>nx (f221_l0_m D0 A0 B0 F0 G0 I0 J0 M0 N0 P0 Q0 R0 S0 T0 U0 E0 V0 W0 X0 Y0 Z0 A1 x) s) (fun i x s=>K (.exit i) (f221_l0_m D0 A0 B0 F0 G0 I0 J0 M0 N0 P0 Q0 R0 S0 T0 U0 E0 V0 W0 X0 Y0 Z0 A1 x) s) (fun x s=>K .ret (f221_l0_m D0 A0 B0 F0 G0 I0 J0 M0 N0 P0 Q0 R0 S0 T0 U0 E0 V0 W0 X0 Y0 Z0 A1 x) s) x s
  kernel_rfl
theorem f221_l0_e (C:OracleJ H) (n:Nat) (D0 A0 B0 F0 G0 I0 J0 M0 N0 P0 Q0 R0 S0 T0 U0 E0 V0 W0 X0 Y0 Z0 A1:Value) (m:Nat) (x:Value×Value) (s:St H) (K:Ex→List Value→St H→Rs221 H) :
 iter (fun t s k=>exec prog false C n 221 none (cdp Try.f221 [1,1,1,0,0,0]) t s k) (scratch (cdp Try.f221 [1,1,1,0,0,0])) m (f221_l0_m D0 A0 B0 F0 G0 I0 J0 M0 N0 P0 Q0 R0 S0 T0 U0 E0 V0 W0 X0 Y0 Z0 A1 x) s K=iterS (f221_l0 (dOps (H:=H) prog) C n D0 A0 E0) (fun i x s=>K (.exit i) (f221_l0_m D0 A0 B0 F0 G0 I0 J0 M0 N0 P0 Q0 R0 S0 T0 U0 E0 V0 W0 X0 Y0 Z0 A1 x) s) (fun x s=>K .ret (f221_l0_m D0 A0 B0 F0 G0 I0 J0 M0 N0 P0 Q0 R0 S0 T0 U0 E0 V0 W0 X0 Y0 Z0 A1 x) s) m x s :=
   iter_eq (f221_l0_m D0 A0 B0 F0 G0 I0 J0 M0 N0 P0 Q0 R0 S0 T0 U0 E0 V0 W0 X0 Y0 Z0 A1) (f221_l0 (dOps (H:=H) prog) C n D0 A0 E0) (fun x s nx K=>f221_l0_b C n D0 A0 B0 F0 G0 I0 J0 M0 N0 P0 Q0 R0 S0 T0 U0 E0 V0 W0 X0 Y0 Z0 A1 x s nx K) K m x s
noncomputable def f221 (O:Ops H) (C:OracleJ H) (n:Nat) (a0 a1 a2 a3:Value) (s:St H):Rs221 H :=
 (O.indexAddr 67 a0 a3).bind fun v1 =>
 (O.load s 70 v1).bind fun v2 =>
 (O.indexAddr 67 a0 a1).bind fun v3 =>
 (O.load s 70 v3).bind fun v4 =>
 (O.indexAddr 67 a0 a1).bind fun v5 =>
 (O.store s 70 v5 v2).bind fun s6 =>
 (O.indexAddr 67 a0 a3).bind fun v7 =>
 (O.store s6 70 v7 v4).bind fun s8 =>
 (O.bop .add 3 a1 (.int .i64 1)).bind fun v9 =>
 (O.bop .sub 3 a2 (.int .i64 1)).bind fun v10 =>
 iterS (f221_l0 O C n a0 a1 v4 )
 (fun G1 x96 s97=>(bif Nat.beq G1 0 then
 some [(x96.1,s97)] else none))
 (fun x98 s99=>some [((Value.int IntKind.i64 0),s99)]) n (v9,v10) s8
theorem f221_l0_k (C:OracleJ H) (n:Nat) (D0 A0 B0 F0 G0 I0 J0 M0 N0 P0 Q0 R0 S0 T0 U0 E0 V0 W0 X0 Y0 Z0 A1:Value) (i:Nat) (x:Value×Value) (s:St H):(kBlock 0 (kSeq prog false C n 221 none (cdp Try.f221 [1,1,1,1]) (kFun prog Try.f221))) (.exit i) (f221_l0_m D0 A0 B0 F0 G0 I0 J0 M0 N0 P0 Q0 R0 S0 T0 U0 E0 V0 W0 X0 Y0 Z0 A1 x) s =
 (bif Nat.beq i 0 then
 some [(x.1,s)] else none):=by kernel_rfl
theorem f221_r (C:OracleJ H) (n:Nat) (a0 a1 a2 a3:Value) (s:St H):bodyD prog false C n 221 Try.f221 [a0,a1,a2,a3] s=f221 (dOps (H:=H) prog) C n a0 a1 a2 a3 s:=by
  have h1:bodyD prog false C n 221 Try.f221 [a0,a1,a2,a3] s =
 ((dF H).indexAddr 67 a0 a3).bind fun v100 =>
 ((dF H).load s 70 v100).bind fun v101 =>
 ((dF H).indexAddr 67 a0 a1).bind fun v102 =>
 ((dF H).load s 70 v102).bind fun v103 =>
 ((dF H).indexAddr 67 a0 a1).bind fun v104 =>
 ((dF H).store s 70 v104 v101).bind fun s105 =>
 ((dF H).indexAddr 67 a0 a3).bind fun v106 =>
 ((dF H).store s105 70 v106 v103).bind fun s107 =>
 ((dF H).bop .add 3 a1 (.int .i64 1)).bind fun v108 =>
 ((dF H).bop .sub 3 a2 (.int .i64 1)).bind fun v109 =>
 iter (fun t s k=>exec prog false C n 221 none (cdp Try.f221 [1,1,1,0,0,0]) t s k) (scratch (cdp Try.f221 [1,1,1,0,0,0])) n (f221_l0_m a0 a1 a2 a3 a0 a1 a0 a3 a0 a3 v100 v101 a0 a1 v102 v103 v104 v106 a1 v108 a2 v109 (v108,v109)) s107 (kBlock 0 (kSeq prog false C n 221 none (cdp Try.f221 [1,1,1,1]) (kFun prog Try.f221))):=by kernel_rfl
  rw [h1]
  simp only [f221_l0_e,f221_l0_k]
  show _=f221 (dOps (H:=H) prog) C n a0 a1 a2 a3 s
  kernel_rfl
end Go.Proofs.Ytmhmbmogodofeaa.S
namespace Go.Proofs.Ytmhmbmogodofeaa.S
open Go.FS Go.RowKit
open Go.Proofs.Try (prog)
abbrev Rs216 (H:HeapI):=Option (List (Value×St H))
variable {H:HeapI}
def f216_l0_m (E0 A0 B0 D0 F0 G0 I0 J0 M0 N0 P0 Q0 R0 S0 T0 U0 V0 W0 X0 Y0 Z0:Value) (x:Value×Value):List Value:=[E0,A0,B0,undefV,undefV,undefV,D0,F0,G0,x.1,x.2,I0,J0,M0,N0,P0,Q0,R0,S0,T0,U0,V0,W0,X0,Y0,Z0,dc,dc,dc,dc,dc,dc,dc,dc,dc,dc,dc,dc,dc,dc,dc,dc,dc,dc,dc,dc,dc,dc,dc,dc,dc,dc,dc,dc,dc,dc,dc,dc,dc,dc,dc,dc,dc,dc,dc]
noncomputable def f216_l0 (O:Ops H) (C:OracleJ H) (n:Nat) (E0 A0 D0 F0 G0:Value) (nx:(Value×Value)→St H→Rs216 H) (kx:Nat→(Value×Value)→St H→Rs216 H) (kr:(Value×Value)→St H→Rs216 H) (x:Value×Value) (s:St H):Rs216 H :=
 (O.bop .quo 3 D0 (.int .i64 4)).bind fun v14 =>
 (O.bop .mul 3 v14 (.int .i64 2)).bind fun v15 =>
 (O.bop .add 3 A0 v15).bind fun v16 =>
 (O.bop .add 3 v16 (.int .i64 1)).bind fun v17 =>
 (O.bop .leq 3 x.1 v17).bind fun v18 =>
 (O.boolO v18).bind fun b19=>cond b19 (
 (C (.fn 204) [F0] s).bind fun L20=>manyK L20 fun v21 s22 =>
 (O.bop .sub 201 G0 (.int .u64 1)).bind fun v23 =>
 (O.bop .and 201 v21 v23).bind fun v24 =>
 (O.conv false s22 201 3 v24).bind fun p25 =>
 (O.bop .geq 3 p25.1 D0).bind fun v26 =>
 jn (fun (j13_10:Value) =>
 (O.bop .add 3 A0 j13_10).bind fun v39 =>
 (O.bop .add 3 A0 j13_10).bind fun v40 =>
 (O.indexAddr 67 E0 v40).bind fun v41 =>
 (O.load p25.2 70 v41).bind fun v42 =>
 (O.indexAddr 67 E0 x.1).bind fun v43 =>
 (O.load p25.2 70 v43).bind fun v44 =>
 (O.indexAddr 67 E0 x.1).bind fun v45 =>
 (O.store p25.2 70 v45 v42).bind fun s46 =>
 (O.indexAddr 67 E0 v39).bind fun v47 =>
 (O.store s46 70 v47 v44).bind fun s48 =>
 (O.bop .add 3 x.1 (.int .i64 1)).bind fun v49 =>
 nx (v49,j13_10) s48) fun k13 =>
 (O.boolO v26).bind fun b27=>cond b27 (
 (O.bop .sub 3 p25.1 D0).bind fun v28 =>
 k13 v28) (
 k13 p25.1)) (
 kx 0 (x.1,x.2) s)
theorem f216_l0_b (C:OracleJ H) (n:Nat) (E0 A0 B0 D0 F0 G0 I0 J0 M0 N0 P0 Q0 R0 S0 T0 U0 V0 W0 X0 Y0 Z0:Value) (x:Value×Value) (s:St H) (nx:List Value→St H→Rs216 H) (K:Ex→List Value→St H→Rs216 H) :
 exec prog false C n 216 none (cdp Try.f216 [1,1,0,1,1,1,0,0]) (f216_l0_m E0 A0 B0 D0 F0 G0 I0 J0 M0 N0 P0 Q0 R0 S0 T0 U0 V0 W0 X0 Y0 Z0 x) s (kIter (scratch (cdp Try.f216 [1,1,0,1,1,1,0,0])) nx K)=f216_l0 (dOps (H:=H) prog) C n E0 A0 D0 F0 G0 (fun x s=>nx (f216_l0_m E0 A0 B0 D0 F0 G0 I0 J0 M0 N0 P0 Q0 R0 S0 T0 U0 V0 W0 X0 Y0 Z0 x) s) (fun i x s=>K (.exit i) (f216_l0_m E0 A0 B0 D0 F0 G0 I0 J0 M0 N0 P0 Q0 R0 S0 T0 U0 V0 W0 X0 Y0 Z0 x) s) (fun x s=>K .ret (f216_l0_m E0 A0 B0 D0 F0 G0 I0 J0 M0 N0 P0 Q0 R0 S0 T0 U0 V0 W0 X0 Y0 Z0 x) s) x s:=by kernel_rfl
theorem f216_l0_e (C:OracleJ H) (n:Nat) (E0 A0 B0 D0 F0 G0 I0 J0 M0 N0 P0 Q0 R0 S0 T0 U0 V0 W0 X0 Y0 Z0:Value) (m:Nat) (x:Value×Value) (s:St H) (K:Ex→List Value→St H→Rs216 H) :
 iter (fun t s k=>exec prog false C n 216 none (cdp Try.f216 [1,1,0,1,1,1,0,0]) t s k) (scratch (cdp Try.f216 [1,1,0,1,1,1,0,0])) m (f216_l0_m E0 A0 B0 D0 F0 G0 I0 J0 M0 N0 P0 Q0 R0 S0 T0 U0 V0 W0 X0 Y0 Z0 x) s K=iterS (f216_l0 (dOps (H:=H) prog) C n E0 A0 D0 F0 G0) (fun i x s=>K (.exit i) (f216_l0_m E0 A0 B0 D0 F0 G0 I0 J0 M0 N0 P0 Q0 R0 S0 T0 U0 V0 W0 X0 Y0 Z0 x) s) (fun x s=>K .ret (f216_l0_m E0 A0 B0 D0 F0 G0 I0 J0 M0 N0 P0 Q0 R0 S0 T0 U0 V0 W0 X0 Y0 Z0 x) s) m x s :=
   iter_eq (f216_l0_m E0 A0 B0 D0 F0 G0 I0 J0 M0 N0 P0 Q0 R0 S0 T0 U0 V0 W0 X0 Y0 Z0) (f216_l0 (dOps (H:=H) prog) C n E0 A0 D0 F0 G0) (fun x s nx K=>f216_l0_b C n E0 A0 B0 D0 F0 G0 I0 J0 M0 N0 P0 Q0 R0 S0 T0 U0 V0 W0 X0 Y0 Z0 x s nx K) K m x s
noncomputable def f216 (O:Ops H) (C:OracleJ H) (n:Nat) (a0 a1 a2:Value) (s:St H):Rs216 H :=
 (O.bop .sub 3 a2 a1).bind fun v1 =>
 (O.bop .geq 3 v1 (.int .i64 8)).bind fun v2 =>
 (O.boolO v2).bind fun b3=>cond b3 (
 (O.conv false s 3 261 v1).bind fun p4 =>
 (O.alloc p4.2 261).bind fun p5 =>
 (O.store p5.2 261 p5.1 p4.1).bind fun s6 =>
 (C (.fn 203) [v1] s6).bind fun L7=>manyK L7 fun v8 s9 =>
 (O.bop .quo 3 v1 (.int .i64 4)).bind fun v10 =>
 (O.bop .mul 3 v10 (.int .i64 2)).bind fun v11 =>
 (O.bop .add 3 a1 v11).bind fun v12 =>
 (O.bop .sub 3 v12 (.int .i64 1)).bind fun v13 =>
 iterS (f216_l0 O C n a0 a1 v1 p5.1 v8 )
 (fun A1 x51 s52=>(bif Nat.beq A1 0 then
 some [(.tuple #[],s52)] else none))
 (fun x53 s54=>some [(.tuple #[],s54)]) n (v13,undefV) s9) (
 some [(.tuple #[],s)])
theorem f216_l0_k (C:OracleJ H) (n:Nat) (E0 A0 B0 D0 F0 G0 I0 J0 M0 N0 P0 Q0 R0 S0 T0 U0 V0 W0 X0 Y0 Z0:Value) (i:Nat) (x:Value×Value) (s:St H):(kBlock 0 (kFun prog Try.f216)) (.exit i) (f216_l0_m E0 A0 B0 D0 F0 G0 I0 J0 M0 N0 P0 Q0 R0 S0 T0 U0 V0 W0 X0 Y0 Z0 x) s =
 (bif Nat.beq i 0 then
 some [(.tuple #[],s)] else none):=by kernel_rfl
theorem f216_r (C:OracleJ H) (n:Nat) (a0 a1 a2:Value) (s:St H):bodyD prog false C n 216 Try.f216 [a0,a1,a2] s=f216 (dOps (H:=H) prog) C n a0 a1 a2 s:=by
  have h1:bodyD prog false C n 216 Try.f216 [a0,a1,a2] s =
 ((dF H).bop .sub 3 a2 a1).bind fun v55 =>
 ((dF H).bop .geq 3 v55 (.int .i64 8)).bind fun v56 =>
 ((dF H).boolO v56).bind fun b57=>cond b57 (
 ((dF H).conv false s 3 261 v55).bind fun p58 =>
 ((dF H).alloc p58.2 261).bind fun p59 =>
 ((dF H).store p59.2 261 p59.1 p58.1).bind fun s60 =>
 (C (.fn 203) [v55] s60).bind fun L61=>manyK L61 fun v62 s63 =>
 ((dF H).bop .quo 3 v55 (.int .i64 4)).bind fun v64 =>
 ((dF H).bop .mul 3 v64 (.int .i64 2)).bind fun v65 =>
 ((dF H).bop .add 3 a1 v65).bind fun v66 =>
 ((dF H).bop .sub 3 v66 (.int .i64 1)).bind fun v67 =>
 iter (fun t s k=>exec prog false C n 216 none (cdp Try.f216 [1,1,0,1,1,1,0,0]) t s k) (scratch (cdp Try.f216 [1,1,0,1,1,1,0,0])) n (f216_l0_m a0 a1 a2 v55 p59.1 v62 a2 a1 v55 v55 v56 v55 p58.1 v55 v62 a1 v55 v64 v65 v66 v67 (v67,undefV)) s63 (kBlock 0 (kFun prog Try.f216))) (
 some [(.tuple #[],s)]):=by kernel_rfl
  rw [h1]
  simp only [f216_l0_e,f216_l0_k]
  show _=f216 (dOps (H:=H) prog) C n a0 a1 a2 s
  kernel_rfl
end Go.Proofs.Ytmhmbmogodofeaa.S
namespace Go.Proofs.Ytmhmbmogodofeaa.S
open Go.FS Go.RowKit
open Go.Proofs.Try (prog)
abbrev Rs203 (H:HeapI):=Option (List (Value×St H))
variable {H:HeapI}
noncomputable def f203 (O:Ops H) (C:OracleJ H) (n:Nat) (a0:Value) (s:St H):Rs203 H :=
 (O.conv false s 3 201 a0).bind fun p1 =>
 (C (.fn 132) [p1.1] p1.2).bind fun L2=>manyK L2 fun v3 s4 =>
 (O.bop .shl 201 (.int .u64 1) v3).bind fun v5 =>
 some [(v5,s4)]
theorem f203_r (C:OracleJ H) (n:Nat) (a0:Value) (s:St H):bodyD prog false C n 203 Try.f203 [a0] s=f203 (dOps (H:=H) prog) C n a0 s:=by kernel_rfl
noncomputable def f132 (O:Ops H) (C:OracleJ H) (n:Nat) (a0:Value) (s:St H):Rs203 H :=
 (C (.fn 173) [a0] s).bind fun L2=>manyK L2 fun v3 s4 =>
 some [(v3,s4)]
theorem f132_r (C:OracleJ H) (n:Nat) (a0:Value) (s:St H):bodyD prog false C n 132 Try.f132 [a0] s=f132 (dOps (H:=H) prog) C n a0 s:=by kernel_rfl
noncomputable def f173 (O:Ops H) (C:OracleJ H) (n:Nat) (a0:Value) (s:St H):Rs203 H :=
 (O.bop .geq 70 a0 (.int .u64 4294967296)).bind fun v1 =>
 jn (fun (j7_0:Value) (j7_2:Value) =>
 (O.bop .geq 70 j7_0 (.int .u64 65536)).bind fun v32 =>
 jn (fun (j27_0:Value) (j27_2:Value) =>
 (O.bop .geq 70 j27_0 (.int .u64 256)).bind fun v48 =>
 jn (fun (j37_0:Value) (j37_2:Value) =>
 (O.conv false s 70 5 j37_0).bind fun p56 =>
 (O.index 9 (Go.Value.string { data:=#[0,1,2,2,3,3,3,3,4,4,4,4,4,4,4,4,5,5,5,5,5,5,5,5,5,5,5,5,5,5,5,5,6,6,6,6,6,6,6,6,6,6,6,6,6,6,6,6,6,6,6,6,6,6,6,6,6,6,6,6,6,6,6,6,7,7,7,7,7,7,7,7,7,7,7,7,7,7,7,7,7,7,7,7,7,7,7,7,7,7,7,7,7,7,7,7,7,7,7,7,7,7,7,7,7,7,7,7,7,7,7,7,7,7,7,7,7,7,7,7,7,7,7,7,7,7,7,7,8,8,8,8,8,8,8,8,8,8,8,8,8,8,8,8,8,8,8,8,8,8,8,8,8,8,8,8,8,8,8,8,8,8,8,8,8,8,8,8,8,8,8,8,8,8,8,8,8,8,8,8,8,8,8,8,8,8,8,8,8,8,8,8,8,8,8,8,8,8,8,8,8,8,8,8,8,8,8,8,8,8,8,8,8,8,8,8,8,8,8,8,8,8,8,8,8,8,8,8,8,8,8,8,8,8,8,8,8,8,8,8,8,8,8,8,8,8,8,8,8,8,8,8,8,8,8,8] }) p56.1).bind fun v57 =>
 (O.conv false p56.2 5 3 v57).bind fun p58 =>
 (O.bop .add 3 j37_2 p58.1).bind fun v59 =>
 some [(v59,p58.2)]) fun k37 =>
 (O.boolO v48).bind fun b49=>cond b49 (
 (O.bop .shr 70 j27_0 (.int .u64 8)).bind fun v50 =>
 (O.bop .add 3 j27_2 (.int .i64 8)).bind fun v51 =>
 k37 v50 v51) (
 k37 j27_0 j27_2)) fun k27 =>
 (O.boolO v32).bind fun b33=>cond b33 (
 (O.bop .shr 70 j7_0 (.int .u64 16)).bind fun v34 =>
 (O.bop .add 3 j7_2 (.int .i64 16)).bind fun v35 =>
 k27 v34 v35) (
 k27 j7_0 j7_2)) fun k7 =>
 (O.boolO v1).bind fun b2=>cond b2 (
 (O.bop .shr 70 a0 (.int .u64 32)).bind fun v3 =>
 k7 v3 (Value.int IntKind.i64 32)) (
 k7 a0 (Value.int IntKind.i64 0))
theorem f173_r (C:OracleJ H) (n:Nat) (a0:Value) (s:St H):bodyD prog false C n 173 Try.f173 [a0] s=f173 (dOps (H:=H) prog) C n a0 s:=by kernel_rfl
noncomputable def f204 (O:Ops H) (C:OracleJ H) (n:Nat) (a0:Value) (s:St H):Rs203 H :=
 (O.nilCheck a0).bind fun v1 =>
 (O.load s 261 v1).bind fun v2 =>
 (O.nilCheck a0).bind fun v3 =>
 (O.load s 261 v3).bind fun v4 =>
 (O.bop .shl 261 v4 (.int .u64 13)).bind fun v5 =>
 (O.bop .xor 261 v2 v5).bind fun v6 =>
 (O.nilCheck a0).bind fun v7 =>
 (O.store s 261 v7 v6).bind fun s8 =>
 (O.nilCheck a0).bind fun v9 =>
 (O.load s8 261 v9).bind fun v10 =>
 (O.nilCheck a0).bind fun v11 =>
 (O.load s8 261 v11).bind fun v12 =>
 (O.bop .shr 261 v12 (.int .u64 7)).bind fun v13 =>
 (O.bop .xor 261 v10 v13).bind fun v14 =>
 (O.nilCheck a0).bind fun v15 =>
 (O.store s8 261 v15 v14).bind fun s16 =>
 (O.nilCheck a0).bind fun v17 =>
 (O.load s16 261 v17).bind fun v18 =>
 (O.nilCheck a0).bind fun v19 =>
 (O.load s16 261 v19).bind fun v20 =>
 (O.bop .shl 261 v20 (.int .u64 17)).bind fun v21 =>
 (O.bop .xor 261 v18 v21).bind fun v22 =>
 (O.nilCheck a0).bind fun v23 =>
 (O.store s16 261 v23 v22).bind fun s24 =>
 (O.nilCheck a0).bind fun v25 =>
 (O.load s24 261 v25).bind fun v26 =>
 some [(v26,s24)]
theorem f204_r (C:OracleJ H) (n:Nat) (a0:Value) (s:St H):bodyD prog false C n 204 Try.f204 [a0] s=f204 (dOps (H:=H) prog) C n a0 s:=by kernel_rfl
end Go.Proofs.Ytmhmbmogodofeaa.S
