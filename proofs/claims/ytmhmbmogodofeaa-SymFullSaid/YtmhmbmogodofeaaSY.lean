/- The plain runs of functions (printed by shal.py). -/
import Derived.Test.YtmhmbmogodofeaaFw
import Derived.ProofKit
import Derived.Test.YtmhmbmogodofeaaRows
set_option autoImplicit false
set_option linter.unusedVariables false
set_option maxRecDepth 100000
namespace Go.Proofs.Ytmhmbmogodofeaa.S
open Go.FS Go.RowKit
variable {H : HeapI}
/-! tidepole/tidepolelaw15.SymNumbers -/
def f8_l0_m (i0 : Value) (i1 : Value) (i5 : Value) (i6 : Value) (i16 : Value) (i17 : Value) (i18 : Value) (i19 : Value) (i20 : Value) (i21 : Value) (i22 : Value) (i23 : Value) (i24 : Value) (i25 : Value) (i26 : Value) (x : Value × Value × Value × Value × Value × Value × Value) : List Value := [i0, i1, undefV, undefV, x.1, i5, i6, x.2.1, x.2.2.1, x.2.2.2.1, x.2.2.2.2.1, x.2.2.2.2.2.1, x.2.2.2.2.2.2, undefV, undefV, undefV, i16, i17, i18, i19, i20, i21, i22, i23, i24, i25, i26, undefV, undefV, undefV, undefV, dc, dc, dc, dc, dc, dc, dc, dc, dc, dc, dc, dc, dc, dc, dc, dc, dc, dc, dc, dc, dc, dc, dc, dc, dc, dc, dc, dc, dc, dc, dc, dc, dc, dc, dc, dc, dc, dc, dc, dc, dc, dc, undefV, undefV, undefV, undefV, undefV, undefV, undefV, undefV, undefV, undefV, undefV, undefV, undefV, undefV, undefV, undefV, undefV, undefV, undefV, undefV, undefV, undefV, undefV, undefV, undefV, undefV, undefV, undefV, undefV, undefV, undefV, undefV, undefV, undefV, undefV, undefV, undefV, undefV]
noncomputable def f8_l0 (O : Ops H) (C : OracleJ H) (n : Nat) (i5 : Value) (nx : (Value × Value × Value × Value × Value × Value × Value) → St H → Option (List (Value × St H))) (kx : Nat → (Value × Value × Value × Value × Value × Value × Value) → St H → Option (List (Value × St H))) (kr : (Value × Value × Value × Value × Value × Value × Value) → St H → Option (List (Value × St H))) (x : Value × Value × Value × Value × Value × Value × Value) (s : St H) : Option (List (Value × St H)) :=
 (O.fieldAddr 50 i5 0).bind fun v24 =>
 (O.load s 48 v24).bind fun v25 =>
 (C (.fn 33) [v25] s).bind fun L26 => manyK L26 fun v27 s28 =>
 (O.bop .lss 3 x.2.2.1 v27).bind fun v29 =>
 (O.boolO v29).bind fun b30 => cond b30 (
 (O.fieldAddr 50 i5 0).bind fun v31 =>
 (O.load s28 48 v31).bind fun v32 =>
 (C (.fn 34) [v32, x.2.2.1] s28).bind fun L33 => manyK L33 fun v34 s35 =>
 (O.extract v34 0).bind fun v36 =>
 (O.extract v34 1).bind fun v37 =>
 (O.fieldAddr 50 i5 0).bind fun v38 =>
 (O.load s35 48 v38).bind fun v39 =>
 (C (.fn 35) [v39, v36] s35).bind fun L40 => manyK L40 fun v41 s42 =>
 (O.extract v41 0).bind fun v43 =>
 (O.extract v41 1).bind fun v44 =>
 (O.bop .neq 26 v37 (Go.Value.int Go.IntKind.i64 0)).bind fun v45 =>
 gd v45 (
 kr ((.bool false), x.2.1, x.2.2.1, v36, v37, v43, v44) s42) (
 (O.bop .neq 3 v43 x.2.2.1).bind fun v46 =>
 gd v46 (
 kr ((.bool false), x.2.1, x.2.2.1, v36, v37, v43, v44) s42) (
 (O.uop .not v44).bind fun v47 =>
 gd v47 (
 kr ((.bool false), x.2.1, x.2.2.1, v36, v37, v43, v44) s42) (
 (O.bop .gtr 3 x.2.2.1 (Go.Value.int Go.IntKind.i64 0)).bind fun v48 =>
 gd v48 (
 (O.bop .leq 9 v36 x.2.1).bind fun v49 =>
 (O.boolO v49).bind fun b54 => cond b54 (
 kr ((.bool false), x.2.1, x.2.2.1, v36, v37, v43, v44) s42) (
 (O.bop .add 3 x.2.2.1 (Go.Value.int Go.IntKind.i64 1)).bind fun v57 =>
 nx (x.1, v36, v57, v36, v37, v43, v44) s42)) (
 (O.bop .add 3 x.2.2.1 (Go.Value.int Go.IntKind.i64 1)).bind fun v58 =>
 nx (x.1, v36, v58, v36, v37, v43, v44) s42) (
 none)) (
 none)) (
 none)) (
 none)) (
 kx 0 (x.1, x.2.1, x.2.2.1, x.2.2.2.1, x.2.2.2.2.1, x.2.2.2.2.2.1, x.2.2.2.2.2.2) s28)
theorem f8_l0_b (C : OracleJ H) (n : Nat) (i0 : Value) (i1 : Value) (i5 : Value) (i6 : Value) (i16 : Value) (i17 : Value) (i18 : Value) (i19 : Value) (i20 : Value) (i21 : Value) (i22 : Value) (i23 : Value) (i24 : Value) (i25 : Value) (i26 : Value) (x : Value × Value × Value × Value × Value × Value × Value) (s : St H) (nx : List Value → St H → Option (List (Value × St H))) (K : Ex → List Value → St H → Option (List (Value × St H))) :
 exec Try.prog true C n 8 none (cdp Try.f8 [1, 1, 1, 1, 1, 1, 0, 1, 0, 0]) (f8_l0_m i0 i1 i5 i6 i16 i17 i18 i19 i20 i21 i22 i23 i24 i25 i26 x) s (kIter (scratch (cdp Try.f8 [1, 1, 1, 1, 1, 1, 0, 1, 0, 0])) nx K) = f8_l0 (dOps (H := H) Try.prog) C n i5 (fun x s => nx (f8_l0_m i0 i1 i5 i6 i16 i17 i18 i19 i20 i21 i22 i23 i24 i25 i26 x) s) (fun i x s => K (.exit i) (f8_l0_m i0 i1 i5 i6 i16 i17 i18 i19 i20 i21 i22 i23 i24 i25 i26 x) s) (fun x s => K .ret (f8_l0_m i0 i1 i5 i6 i16 i17 i18 i19 i20 i21 i22 i23 i24 i25 i26 x) s) x s := by kernel_rfl
theorem f8_l0_e (C : OracleJ H) (n : Nat) (i0 : Value) (i1 : Value) (i5 : Value) (i6 : Value) (i16 : Value) (i17 : Value) (i18 : Value) (i19 : Value) (i20 : Value) (i21 : Value) (i22 : Value) (i23 : Value) (i24 : Value) (i25 : Value) (i26 : Value) (m : Nat) (x : Value × Value × Value × Value × Value × Value × Value) (s : St H) (K : Ex → List Value → St H → Option (List (Value × St H))) :
 iter (fun t s k => exec Try.prog true C n 8 none (cdp Try.f8 [1, 1, 1, 1, 1, 1, 0, 1, 0, 0]) t s k) (scratch (cdp Try.f8 [1, 1, 1, 1, 1, 1, 0, 1, 0, 0])) m (f8_l0_m i0 i1 i5 i6 i16 i17 i18 i19 i20 i21 i22 i23 i24 i25 i26 x) s K = iterS (f8_l0 (dOps (H := H) Try.prog) C n i5) (fun i x s => K (.exit i) (f8_l0_m i0 i1 i5 i6 i16 i17 i18 i19 i20 i21 i22 i23 i24 i25 i26 x) s) (fun x s => K .ret (f8_l0_m i0 i1 i5 i6 i16 i17 i18 i19 i20 i21 i22 i23 i24 i25 i26 x) s) m x s :=
   iter_eq (f8_l0_m i0 i1 i5 i6 i16 i17 i18 i19 i20 i21 i22 i23 i24 i25 i26) (f8_l0 (dOps (H := H) Try.prog) C n i5) (fun x s nx K => f8_l0_b C n i0 i1 i5 i6 i16 i17 i18 i19 i20 i21 i22 i23 i24 i25 i26 x s nx K) K m x s
noncomputable def f8 (O : Ops H) (C : OracleJ H) (n : Nat) (a0 : Value) (a1 : Value) (s : St H) : Option (List (Value × St H)) :=
 (C (.fn 30) [] s).bind fun L1 => manyK L1 fun v2 s3 =>
 (O.uop .not v2).bind fun v4 =>
 (O.boolO v4).bind fun b5 => cond b5 (
 some [((.bool false), s3)]) (
 (C (.fn 31) [a0] s3).bind fun L6 => manyK L6 fun v7 s8 =>
 (C (.fn 32) [v7] s8).bind fun L9 => manyK L9 fun v10 s11 =>
 (O.extract v10 0).bind fun v12 =>
 (O.extract v10 1).bind fun v13 =>
 (O.alloc s11 50).bind fun p14 =>
 (O.store p14.2 50 p14.1 v12).bind fun s15 =>
 (O.bop .neq 26 v13 (Go.Value.int Go.IntKind.i64 0)).bind fun v16 =>
 (O.boolO v16).bind fun b17 => cond b17 (
 (O.fieldAddr 50 p14.1 0).bind fun v18 =>
 (O.load s15 48 v18).bind fun v19 =>
 (C (.fn 33) [v19] s15).bind fun L20 => manyK L20 fun v21 s22 =>
 (O.bop .eql 3 v21 (Go.Value.int Go.IntKind.i64 0)).bind fun v23 =>
 some [(v23, s22)]) (
 iterS (f8_l0 O C n p14.1 )
 (fun i59 x60 s61 => (bif Nat.beq i59 0 then
 (O.len s61 45 v7).bind fun v64 =>
 (O.bop .add 3 v64 (Go.Value.int Go.IntKind.i64 1)).bind fun v65 =>
 (C (.fn 20) [a1, v65] s61).bind fun L66 => manyK L66 fun v67 s68 =>
 (O.buildSlice true s68 45 0 []).bind fun p69 =>
 (O.slc p69.2 45 v7 (some v67) none none).bind fun v70 =>
 (O.append true p69.2 45 45 p69.1 v70).bind fun p71 =>
 (O.slc p71.2 45 v7 none (some v67) none).bind fun v72 =>
 (O.append true p71.2 45 45 p71.1 v72).bind fun p73 =>
 (O.append true p73.2 45 45 p73.1 v7).bind fun p74 =>
 (oneO C (.fn 32) [p74.1] p74.2).bind fun p75 =>
 (O.extract p75.1 0).bind fun v76 =>
 (O.extract p75.1 1).bind fun v77 =>
 (O.alloc p75.2 50).bind fun p78 =>
 (O.store p78.2 50 p78.1 v76).bind fun s79 =>
 (O.bop .eql 26 v77 (Go.Value.int Go.IntKind.i64 0)).bind fun v80 =>
 gd v80 (
 (O.load s79 50 p78.1).bind fun v81 =>
 (oneO C (.fn 36) [v81] s79).bind fun p82 =>
 (O.load p82.2 50 p14.1).bind fun v83 =>
 (oneO C (.fn 36) [v83] p82.2).bind fun p84 =>
 (oneO C (.fn 26) [p82.1, p84.1] p84.2).bind fun p85 =>
 gd p85.1 (
 (O.fieldAddr 50 p78.1 0).bind fun v86 =>
 (O.load p85.2 48 v86).bind fun v87 =>
 (oneO C (.fn 33) [v87] p85.2).bind fun p88 =>
 (O.fieldAddr 50 p14.1 0).bind fun v89 =>
 (O.load p88.2 48 v89).bind fun v90 =>
 (oneO C (.fn 33) [v90] p88.2).bind fun p91 =>
 (O.bop .eql 3 p88.1 p91.1).bind fun v92 =>
 bif (eqO H (O.load p85.2 48 v89) v90 && (eqO H (O.load p88.2 48 v89) v90 && (true))) && ((eqO H (O.load s79 50 p14.1) v83 && (eqO H (O.load p82.2 50 p14.1) v83 && (true))) && (true)) then
 some [(v92, p91.2)]
 else none) (
 bif (eqO H (O.load s79 50 p14.1) v83 && (eqO H (O.load p82.2 50 p14.1) v83 && (true))) && (true) then
 some [((.bool false), p85.2)]
 else none) (
 none)) (
 some [((.bool false), s79)]) (
 none) else none))
 (fun x62 s63 => some [(x62.1, s63)]) n ((.bool false), (Go.Value.string { data := #[] }), (Go.Value.int Go.IntKind.i64 0), undefV, undefV, undefV, undefV) s15))
theorem f8_l0_k (C : OracleJ H) (n : Nat) (i0 : Value) (i1 : Value) (i5 : Value) (i6 : Value) (i16 : Value) (i17 : Value) (i18 : Value) (i19 : Value) (i20 : Value) (i21 : Value) (i22 : Value) (i23 : Value) (i24 : Value) (i25 : Value) (i26 : Value) (i : Nat) (x : Value × Value × Value × Value × Value × Value × Value) (s : St H) : (kBlock 0 (kSeq Try.prog true C n 8 none (cdp Try.f8 [1, 1, 1, 1, 1, 1, 1]) (kFun Try.prog Try.f8))) (.exit i) (f8_l0_m i0 i1 i5 i6 i16 i17 i18 i19 i20 i21 i22 i23 i24 i25 i26 x) s =
 (bif Nat.beq i 0 then
 ((dOps (H := H) Try.prog).len s 45 i0).bind fun v145 =>
 ((dOps (H := H) Try.prog).bop .add 3 v145 (Go.Value.int Go.IntKind.i64 1)).bind fun v146 =>
 (C (.fn 20) [i1, v146] s).bind fun L147 => manyK L147 fun v148 s149 =>
 ((dOps (H := H) Try.prog).buildSlice true s149 45 0 []).bind fun p150 =>
 ((dOps (H := H) Try.prog).slc p150.2 45 i0 (some v148) none none).bind fun v151 =>
 ((dOps (H := H) Try.prog).append true p150.2 45 45 p150.1 v151).bind fun p152 =>
 ((dOps (H := H) Try.prog).slc p152.2 45 i0 none (some v148) none).bind fun v153 =>
 ((dOps (H := H) Try.prog).append true p152.2 45 45 p152.1 v153).bind fun p154 =>
 ((dOps (H := H) Try.prog).append true p154.2 45 45 p154.1 i0).bind fun p155 =>
 (oneO C (.fn 32) [p155.1] p155.2).bind fun p156 =>
 ((dOps (H := H) Try.prog).extract p156.1 0).bind fun v157 =>
 ((dOps (H := H) Try.prog).extract p156.1 1).bind fun v158 =>
 ((dOps (H := H) Try.prog).alloc p156.2 50).bind fun p159 =>
 ((dOps (H := H) Try.prog).store p159.2 50 p159.1 v157).bind fun s160 =>
 ((dOps (H := H) Try.prog).bop .eql 26 v158 (Go.Value.int Go.IntKind.i64 0)).bind fun v161 =>
 gd v161 (
 ((dOps (H := H) Try.prog).load s160 50 p159.1).bind fun v162 =>
 (oneO C (.fn 36) [v162] s160).bind fun p163 =>
 ((dOps (H := H) Try.prog).load p163.2 50 i5).bind fun v164 =>
 (oneO C (.fn 36) [v164] p163.2).bind fun p165 =>
 (oneO C (.fn 26) [p163.1, p165.1] p165.2).bind fun p166 =>
 gd p166.1 (
 ((dOps (H := H) Try.prog).fieldAddr 50 p159.1 0).bind fun v167 =>
 ((dOps (H := H) Try.prog).load p166.2 48 v167).bind fun v168 =>
 (oneO C (.fn 33) [v168] p166.2).bind fun p169 =>
 ((dOps (H := H) Try.prog).fieldAddr 50 i5 0).bind fun v170 =>
 ((dOps (H := H) Try.prog).load p169.2 48 v170).bind fun v171 =>
 (oneO C (.fn 33) [v171] p169.2).bind fun p172 =>
 ((dOps (H := H) Try.prog).bop .eql 3 p169.1 p172.1).bind fun v173 =>
 bif (eqO H ((dOps (H := H) Try.prog).load p166.2 48 v170) v171 && (eqO H ((dOps (H := H) Try.prog).load p169.2 48 v170) v171 && (true))) && ((eqO H ((dOps (H := H) Try.prog).load s160 50 i5) v164 && (eqO H ((dOps (H := H) Try.prog).load p163.2 50 i5) v164 && (true))) && (true)) then
 some [(v173, p172.2)]
 else none) (
 bif (eqO H ((dOps (H := H) Try.prog).load s160 50 i5) v164 && (eqO H ((dOps (H := H) Try.prog).load p163.2 50 i5) v164 && (true))) && (true) then
 some [((.bool false), p166.2)]
 else none) (
 none)) (
 some [((.bool false), s160)]) (
 none) else none) := by kernel_rfl
theorem f8_r (C : OracleJ H) (n : Nat) (a0 : Value) (a1 : Value) (s : St H) : bodyD Try.prog true C n 8 Try.f8 [a0, a1] s = f8 (dOps (H := H) Try.prog) C n a0 a1 s := by
  have h1 : bodyD Try.prog true C n 8 Try.f8 [a0, a1] s =
 (C (.fn 30) [] s).bind fun L93 => manyK L93 fun v94 s95 =>
 ((dOps (H := H) Try.prog).uop .not v94).bind fun v96 =>
 ((dOps (H := H) Try.prog).boolO v96).bind fun b97 => cond b97 (
 some [((.bool false), s95)]) (
 (C (.fn 31) [a0] s95).bind fun L98 => manyK L98 fun v99 s100 =>
 (C (.fn 32) [v99] s100).bind fun L101 => manyK L101 fun v102 s103 =>
 ((dOps (H := H) Try.prog).extract v102 0).bind fun v104 =>
 ((dOps (H := H) Try.prog).extract v102 1).bind fun v105 =>
 ((dOps (H := H) Try.prog).alloc s103 50).bind fun p106 =>
 ((dOps (H := H) Try.prog).store p106.2 50 p106.1 v104).bind fun s107 =>
 ((dOps (H := H) Try.prog).bop .neq 26 v105 (Go.Value.int Go.IntKind.i64 0)).bind fun v108 =>
 ((dOps (H := H) Try.prog).boolO v108).bind fun b109 => cond b109 (
 ((dOps (H := H) Try.prog).fieldAddr 50 p106.1 0).bind fun v110 =>
 ((dOps (H := H) Try.prog).load s107 48 v110).bind fun v111 =>
 (C (.fn 33) [v111] s107).bind fun L112 => manyK L112 fun v113 s114 =>
 ((dOps (H := H) Try.prog).bop .eql 3 v113 (Go.Value.int Go.IntKind.i64 0)).bind fun v115 =>
 some [(v115, s114)]) (
 iter (fun t s k => exec Try.prog true C n 8 none (cdp Try.f8 [1, 1, 1, 1, 1, 1, 0, 1, 0, 0]) t s k) (scratch (cdp Try.f8 [1, 1, 1, 1, 1, 1, 0, 1, 0, 0])) n (f8_l0_m v99 a1 p106.1 v105 v94 v96 a0 v99 v102 v99 v102 v104 v105 v105 v108 ((.bool false), (Go.Value.string { data := #[] }), (Go.Value.int Go.IntKind.i64 0), undefV, undefV, undefV, undefV)) s107 (kBlock 0 (kSeq Try.prog true C n 8 none (cdp Try.f8 [1, 1, 1, 1, 1, 1, 1]) (kFun Try.prog Try.f8))))) := by kernel_rfl
  rw [h1]
  simp only [f8_l0_e, f8_l0_k]
  show _ = f8 (dOps (H := H) Try.prog) C n a0 a1 s
  kernel_rfl
/-! tidepole/tidepolelaw15.SymBack -/
noncomputable def f9 (O : Ops H) (C : OracleJ H) (n : Nat) (a0 : Value) (a1 : Value) (a2 : Value) (s : St H) : Option (List (Value × St H)) :=
 (C (.fn 30) [] s).bind fun L1 => manyK L1 fun v2 s3 =>
 (O.uop .not v2).bind fun v4 =>
 (O.boolO v4).bind fun b5 => cond b5 (
 some [((.bool false), s3)]) (
 (O.len s3 35 a1).bind fun v6 =>
 (O.minO v6 [(Go.Value.int Go.IntKind.i64 400)]).bind fun v7 =>
 (O.slc s3 35 a1 none (some v7) none).bind fun v8 =>
 (O.len s3 35 a2).bind fun v9 =>
 (O.minO v9 [(Go.Value.int Go.IntKind.i64 40)]).bind fun v10 =>
 (O.slc s3 35 a2 none (some v10) none).bind fun v11 =>
 (C (.fn 31) [a0] s3).bind fun L12 => manyK L12 fun v13 s14 =>
 (C (.fn 32) [v13] s14).bind fun L15 => manyK L15 fun v16 s17 =>
 (O.extract v16 0).bind fun v18 =>
 (O.extract v16 1).bind fun v19 =>
 (O.alloc s17 50).bind fun p20 =>
 (O.store p20.2 50 p20.1 v18).bind fun s21 =>
 (O.bop .eql 26 v19 (Go.Value.int Go.IntKind.i64 0)).bind fun v22 =>
 jn (fun (js58 : St H) =>
 (C (.fn 37) [v8, (Go.Value.int Go.IntKind.i64 0)] js58).bind fun L90 => manyK L90 fun v91 s92 =>
 (O.extract v91 0).bind fun v93 =>
 (O.extract v91 1).bind fun v94 =>
 (O.extract v91 2).bind fun v95 =>
 (O.alloc s92 50).bind fun p96 =>
 (O.store p96.2 50 p96.1 v93).bind fun s97 =>
 (O.bop .neq 26 v95 (Go.Value.int Go.IntKind.i64 0)).bind fun v98 =>
 gd v98 (
 (O.bop .eql 3 v94 (Go.Value.int Go.IntKind.i64 0)).bind fun v99 =>
 gd v99 (
 (O.fieldAddr 50 p96.1 0).bind fun v100 =>
 (O.load s97 48 v100).bind fun v101 =>
 (oneO C (.fn 33) [v101] s97).bind fun p102 =>
 (O.bop .eql 3 p102.1 (Go.Value.int Go.IntKind.i64 0)).bind fun v103 =>
 gd v103 (
 some [((.bool true), p102.2)]) (
 (O.bop .eql 26 v95 (Go.Value.int Go.IntKind.i64 0)).bind fun v104 =>
 gd v104 (
 (O.len p102.2 35 v8).bind fun v105 =>
 (O.bop .leq 3 v94 v105).bind fun v106 =>
 gd v106 (
 (O.load p102.2 50 p96.1).bind fun v107 =>
 (oneO C (.fn 36) [v107] p102.2).bind fun p108 =>
 (O.slc p108.2 35 v8 none (some v94) none).bind fun v109 =>
 (oneO C (.fn 26) [p108.1, v109] p108.2).bind fun p110 =>
 some [(p110.1, p110.2)]) (
 some [((.bool false), p102.2)]) (
 none)) (
 some [((.bool false), p102.2)]) (
 none)) (
 none)) (
 (O.bop .eql 26 v95 (Go.Value.int Go.IntKind.i64 0)).bind fun v111 =>
 gd v111 (
 (O.len s97 35 v8).bind fun v112 =>
 (O.bop .leq 3 v94 v112).bind fun v113 =>
 gd v113 (
 (O.load s97 50 p96.1).bind fun v114 =>
 (oneO C (.fn 36) [v114] s97).bind fun p115 =>
 (O.slc p115.2 35 v8 none (some v94) none).bind fun v116 =>
 (oneO C (.fn 26) [p115.1, v116] p115.2).bind fun p117 =>
 some [(p117.1, p117.2)]) (
 some [((.bool false), s97)]) (
 none)) (
 some [((.bool false), s97)]) (
 none)) (
 none)) (
 (O.bop .eql 26 v95 (Go.Value.int Go.IntKind.i64 0)).bind fun v118 =>
 gd v118 (
 (O.len s97 35 v8).bind fun v119 =>
 (O.bop .leq 3 v94 v119).bind fun v120 =>
 gd v120 (
 (O.load s97 50 p96.1).bind fun v121 =>
 (oneO C (.fn 36) [v121] s97).bind fun p122 =>
 (O.slc p122.2 35 v8 none (some v94) none).bind fun v123 =>
 (oneO C (.fn 26) [p122.1, v123] p122.2).bind fun p124 =>
 some [(p124.1, p124.2)]) (
 some [((.bool false), s97)]) (
 none)) (
 some [((.bool false), s97)]) (
 none)) (
 none)) fun k58 =>
 (O.boolO v22).bind fun b23 => cond b23 (
 (O.load s21 50 p20.1).bind fun v24 =>
 (C (.fn 36) [v24] s21).bind fun L25 => manyK L25 fun v26 s27 =>
 (C (.fn 38) [v26] s27).bind fun L28 => manyK L28 fun v29 s30 =>
 (O.append false s30 35 35 v29 v11).bind fun p31 =>
 (C (.fn 37) [p31.1, (Go.Value.int Go.IntKind.i64 0)] p31.2).bind fun L32 => manyK L32 fun v33 s34 =>
 (O.extract v33 0).bind fun v35 =>
 (O.extract v33 1).bind fun v36 =>
 (O.extract v33 2).bind fun v37 =>
 (O.alloc s34 50).bind fun p38 =>
 (O.store p38.2 50 p38.1 v35).bind fun s39 =>
 (O.bop .neq 26 v37 (Go.Value.int Go.IntKind.i64 0)).bind fun v40 =>
 gd v40 (
 some [((.bool false), s39)]) (
 (O.len s39 35 v26).bind fun v41 =>
 (O.bop .neq 3 v36 v41).bind fun v42 =>
 gd v42 (
 some [((.bool false), s39)]) (
 (O.load s39 50 p38.1).bind fun v43 =>
 (C (.fn 36) [v43] s39).bind fun L44 => manyK L44 fun v45 s46 =>
 (C (.fn 26) [v45, v26] s46).bind fun L47 => manyK L47 fun v48 s49 =>
 (O.uop .not v48).bind fun v50 =>
 (O.boolO v50).bind fun b54 => cond b54 (
 some [((.bool false), s49)]) (
 k58 s49)) (
 none)) (
 none)) (
 k58 s21))
theorem f9_r (C : OracleJ H) (n : Nat) (a0 : Value) (a1 : Value) (a2 : Value) (s : St H) : bodyD Try.prog false C n 9 Try.f9 [a0, a1, a2] s = f9 (dOps (H := H) Try.prog) C n a0 a1 a2 s := by kernel_rfl
/-! tidepole/tidepolelaw15.SymFull -/
def f10_l0_m (i0 : Value) (i10 : Value) (i11 : Value) (i12 : Value) (x : Value × Value) : List Value := [i0, undefV, (.bool false), x.1, x.2, undefV, undefV, undefV, undefV, undefV, i10, i11, i12, dc, dc, dc, dc, dc, dc, dc, dc, dc, dc, dc, dc, dc, dc, dc, dc, dc, dc, undefV, undefV, undefV, undefV, undefV, undefV, undefV, undefV, undefV, undefV, undefV, undefV, undefV, undefV, undefV, undefV, undefV, undefV, undefV, undefV, undefV, undefV, undefV, undefV, undefV, undefV, undefV, undefV, undefV, undefV, undefV, undefV, undefV, undefV, undefV, undefV, undefV, undefV, undefV, undefV, undefV, undefV, undefV, undefV, undefV]
noncomputable def f10_l0 (O : Ops H) (C : OracleJ H) (n : Nat) (i0 : Value) (nx : (Value × Value) → St H → Option (List (Value × St H))) (kx : Nat → (Value × Value) → St H → Option (List (Value × St H))) (kr : (Value × Value) → St H → Option (List (Value × St H))) (x : Value × Value) (s : St H) : Option (List (Value × St H)) :=
 (C (.fn 20) [i0, (Go.Value.int Go.IntKind.i64 3)] s).bind fun L7 => manyK L7 fun v8 s9 =>
 (O.bop .add 3 (Go.Value.int Go.IntKind.i64 4096) v8).bind fun v10 =>
 (O.bop .lss 3 x.2 v10).bind fun v11 =>
 (O.boolO v11).bind fun b12 => cond b12 (
 (O.bop .quo 3 x.2 (Go.Value.int Go.IntKind.i64 256)).bind fun v13 =>
 (O.conv false s9 3 5 v13).bind fun p14 =>
 (O.bop .rem 3 x.2 (Go.Value.int Go.IntKind.i64 256)).bind fun v15 =>
 (O.conv false p14.2 3 5 v15).bind fun p16 =>
 (O.buildSlice false p16.2 35 2 [(0, p14.1), (1, p16.1)]).bind fun p17 =>
 (O.conv false p17.2 35 9 p17.1).bind fun p18 =>
 (O.buildSlice false p18.2 45 1 [(0, p18.1)]).bind fun p19 =>
 (O.append false p19.2 45 45 x.1 p19.1).bind fun p20 =>
 (O.bop .add 3 x.2 (Go.Value.int Go.IntKind.i64 1)).bind fun v21 =>
 nx (p20.1, v21) p20.2) (
 kx 0 (x.1, x.2) s9)
theorem f10_l0_b (C : OracleJ H) (n : Nat) (i0 : Value) (i10 : Value) (i11 : Value) (i12 : Value) (x : Value × Value) (s : St H) (nx : List Value → St H → Option (List (Value × St H))) (K : Ex → List Value → St H → Option (List (Value × St H))) :
 exec Try.prog false C n 10 none (cdp Try.f10 [1, 1, 1, 0, 1, 0, 0]) (f10_l0_m i0 i10 i11 i12 x) s (kIter (scratch (cdp Try.f10 [1, 1, 1, 0, 1, 0, 0])) nx K) = f10_l0 (dOps (H := H) Try.prog) C n i0 (fun x s => nx (f10_l0_m i0 i10 i11 i12 x) s) (fun i x s => K (.exit i) (f10_l0_m i0 i10 i11 i12 x) s) (fun x s => K .ret (f10_l0_m i0 i10 i11 i12 x) s) x s := by kernel_rfl
theorem f10_l0_e (C : OracleJ H) (n : Nat) (i0 : Value) (i10 : Value) (i11 : Value) (i12 : Value) (m : Nat) (x : Value × Value) (s : St H) (K : Ex → List Value → St H → Option (List (Value × St H))) :
 iter (fun t s k => exec Try.prog false C n 10 none (cdp Try.f10 [1, 1, 1, 0, 1, 0, 0]) t s k) (scratch (cdp Try.f10 [1, 1, 1, 0, 1, 0, 0])) m (f10_l0_m i0 i10 i11 i12 x) s K = iterS (f10_l0 (dOps (H := H) Try.prog) C n i0) (fun i x s => K (.exit i) (f10_l0_m i0 i10 i11 i12 x) s) (fun x s => K .ret (f10_l0_m i0 i10 i11 i12 x) s) m x s :=
   iter_eq (f10_l0_m i0 i10 i11 i12) (f10_l0 (dOps (H := H) Try.prog) C n i0) (fun x s nx K => f10_l0_b C n i0 i10 i11 i12 x s nx K) K m x s
noncomputable def f10 (O : Ops H) (C : OracleJ H) (n : Nat) (a0 : Value) (s : St H) : Option (List (Value × St H)) :=
 (C (.fn 30) [] s).bind fun L1 => manyK L1 fun v2 s3 =>
 (O.uop .not v2).bind fun v4 =>
 (O.boolO v4).bind fun b5 => cond b5 (
 some [((.bool false), s3)]) (
 (O.buildSlice false s3 45 0 []).bind fun p6 =>
 iterS (f10_l0 O C n a0 )
 (fun i22 x23 s24 => (bif Nat.beq i22 0 then
 (C (.fn 32) [x23.1] s24).bind fun L27 => manyK L27 fun v28 s29 =>
 (O.extract v28 0).bind fun v30 =>
 (O.extract v28 1).bind fun v31 =>
 (O.alloc s29 50).bind fun p32 =>
 (O.store p32.2 50 p32.1 v30).bind fun s33 =>
 (O.len s33 45 x23.1).bind fun v34 =>
 (O.bop .gtr 3 v34 (Go.Value.int Go.IntKind.i64 4096)).bind fun v35 =>
 (O.boolO v35).bind fun b36 => cond b36 (
 (O.bop .eql 26 v31 (Go.Value.int Go.IntKind.i64 3)).bind fun v37 =>
 gd v37 (
 (O.fieldAddr 50 p32.1 0).bind fun v38 =>
 (O.load s33 48 v38).bind fun v39 =>
 (C (.fn 33) [v39] s33).bind fun L40 => manyK L40 fun v41 s42 =>
 (O.bop .eql 3 v41 (Go.Value.int Go.IntKind.i64 0)).bind fun v43 =>
 some [(v43, s42)]) (
 some [((.bool false), s33)]) (
 none)) (
 (O.load s33 50 p32.1).bind fun v44 =>
 (C (.fn 36) [v44] s33).bind fun L45 => manyK L45 fun v46 s47 =>
 (C (.fn 37) [v46, (Go.Value.int Go.IntKind.i64 0)] s47).bind fun L48 => manyK L48 fun v49 s50 =>
 (O.extract v49 0).bind fun v51 =>
 (O.extract v49 1).bind fun v52 =>
 (O.extract v49 2).bind fun v53 =>
 (O.alloc s50 50).bind fun p54 =>
 (O.store p54.2 50 p54.1 v51).bind fun s55 =>
 (O.bop .eql 26 v31 (Go.Value.int Go.IntKind.i64 0)).bind fun v56 =>
 gd v56 (
 (O.fieldAddr 50 p32.1 0).bind fun v57 =>
 (O.load s55 48 v57).bind fun v58 =>
 (C (.fn 33) [v58] s55).bind fun L59 => manyK L59 fun v60 s61 =>
 (O.len s61 45 x23.1).bind fun v62 =>
 (O.bop .eql 3 v60 v62).bind fun v63 =>
 gd v63 (
 (O.bop .eql 26 v53 (Go.Value.int Go.IntKind.i64 0)).bind fun v64 =>
 gd v64 (
 (O.fieldAddr 50 p54.1 0).bind fun v65 =>
 (O.load s61 48 v65).bind fun v66 =>
 (C (.fn 33) [v66] s61).bind fun L67 => manyK L67 fun v68 s69 =>
 (O.len s69 45 x23.1).bind fun v70 =>
 (O.bop .eql 3 v68 v70).bind fun v71 =>
 some [(v71, s69)]) (
 some [((.bool false), s61)]) (
 none)) (
 some [((.bool false), s61)]) (
 none)) (
 some [((.bool false), s55)]) (
 none)) else none))
 (fun x25 s26 => some [((.bool false), s26)]) n (p6.1, (Go.Value.int Go.IntKind.i64 0)) p6.2)
theorem f10_l0_k (C : OracleJ H) (n : Nat) (i0 : Value) (i10 : Value) (i11 : Value) (i12 : Value) (i : Nat) (x : Value × Value) (s : St H) : (kBlock 0 (kSeq Try.prog false C n 10 none (cdp Try.f10 [1, 1, 1, 1]) (kFun Try.prog Try.f10))) (.exit i) (f10_l0_m i0 i10 i11 i12 x) s =
 (bif Nat.beq i 0 then
 (C (.fn 32) [x.1] s).bind fun L123 => manyK L123 fun v124 s125 =>
 ((dOps (H := H) Try.prog).extract v124 0).bind fun v126 =>
 ((dOps (H := H) Try.prog).extract v124 1).bind fun v127 =>
 ((dOps (H := H) Try.prog).alloc s125 50).bind fun p128 =>
 ((dOps (H := H) Try.prog).store p128.2 50 p128.1 v126).bind fun s129 =>
 ((dOps (H := H) Try.prog).len s129 45 x.1).bind fun v130 =>
 ((dOps (H := H) Try.prog).bop .gtr 3 v130 (Go.Value.int Go.IntKind.i64 4096)).bind fun v131 =>
 ((dOps (H := H) Try.prog).boolO v131).bind fun b132 => cond b132 (
 ((dOps (H := H) Try.prog).bop .eql 26 v127 (Go.Value.int Go.IntKind.i64 3)).bind fun v133 =>
 gd v133 (
 ((dOps (H := H) Try.prog).fieldAddr 50 p128.1 0).bind fun v134 =>
 ((dOps (H := H) Try.prog).load s129 48 v134).bind fun v135 =>
 (C (.fn 33) [v135] s129).bind fun L136 => manyK L136 fun v137 s138 =>
 ((dOps (H := H) Try.prog).bop .eql 3 v137 (Go.Value.int Go.IntKind.i64 0)).bind fun v139 =>
 some [(v139, s138)]) (
 some [((.bool false), s129)]) (
 none)) (
 ((dOps (H := H) Try.prog).load s129 50 p128.1).bind fun v140 =>
 (C (.fn 36) [v140] s129).bind fun L141 => manyK L141 fun v142 s143 =>
 (C (.fn 37) [v142, (Go.Value.int Go.IntKind.i64 0)] s143).bind fun L144 => manyK L144 fun v145 s146 =>
 ((dOps (H := H) Try.prog).extract v145 0).bind fun v147 =>
 ((dOps (H := H) Try.prog).extract v145 1).bind fun v148 =>
 ((dOps (H := H) Try.prog).extract v145 2).bind fun v149 =>
 ((dOps (H := H) Try.prog).alloc s146 50).bind fun p150 =>
 ((dOps (H := H) Try.prog).store p150.2 50 p150.1 v147).bind fun s151 =>
 ((dOps (H := H) Try.prog).bop .eql 26 v127 (Go.Value.int Go.IntKind.i64 0)).bind fun v152 =>
 gd v152 (
 ((dOps (H := H) Try.prog).fieldAddr 50 p128.1 0).bind fun v153 =>
 ((dOps (H := H) Try.prog).load s151 48 v153).bind fun v154 =>
 (C (.fn 33) [v154] s151).bind fun L155 => manyK L155 fun v156 s157 =>
 ((dOps (H := H) Try.prog).len s157 45 x.1).bind fun v158 =>
 ((dOps (H := H) Try.prog).bop .eql 3 v156 v158).bind fun v159 =>
 gd v159 (
 ((dOps (H := H) Try.prog).bop .eql 26 v149 (Go.Value.int Go.IntKind.i64 0)).bind fun v160 =>
 gd v160 (
 ((dOps (H := H) Try.prog).fieldAddr 50 p150.1 0).bind fun v161 =>
 ((dOps (H := H) Try.prog).load s157 48 v161).bind fun v162 =>
 (C (.fn 33) [v162] s157).bind fun L163 => manyK L163 fun v164 s165 =>
 ((dOps (H := H) Try.prog).len s165 45 x.1).bind fun v166 =>
 ((dOps (H := H) Try.prog).bop .eql 3 v164 v166).bind fun v167 =>
 some [(v167, s165)]) (
 some [((.bool false), s157)]) (
 none)) (
 some [((.bool false), s157)]) (
 none)) (
 some [((.bool false), s151)]) (
 none)) else none) := by kernel_rfl
theorem f10_r (C : OracleJ H) (n : Nat) (a0 : Value) (s : St H) : bodyD Try.prog false C n 10 Try.f10 [a0] s = f10 (dOps (H := H) Try.prog) C n a0 s := by
  have h1 : bodyD Try.prog false C n 10 Try.f10 [a0] s =
 (C (.fn 30) [] s).bind fun L72 => manyK L72 fun v73 s74 =>
 ((dOps (H := H) Try.prog).uop .not v73).bind fun v75 =>
 ((dOps (H := H) Try.prog).boolO v75).bind fun b76 => cond b76 (
 some [((.bool false), s74)]) (
 ((dOps (H := H) Try.prog).buildSlice false s74 45 0 []).bind fun p77 =>
 iter (fun t s k => exec Try.prog false C n 10 none (cdp Try.f10 [1, 1, 1, 0, 1, 0, 0]) t s k) (scratch (cdp Try.f10 [1, 1, 1, 0, 1, 0, 0])) n (f10_l0_m a0 v73 v75 p77.1 (p77.1, (Go.Value.int Go.IntKind.i64 0))) p77.2 (kBlock 0 (kSeq Try.prog false C n 10 none (cdp Try.f10 [1, 1, 1, 1]) (kFun Try.prog Try.f10)))) := by kernel_rfl
  rw [h1]
  simp only [f10_l0_e, f10_l0_k]
  show _ = f10 (dOps (H := H) Try.prog) C n a0 s
  kernel_rfl
/-! tidepole/tidepolebase.Among -/
noncomputable def f20 (O : Ops H) (C : OracleJ H) (n : Nat) (a0 : Value) (a1 : Value) (s : St H) : Option (List (Value × St H)) :=
 (O.bop .lss 3 a1 (Go.Value.int Go.IntKind.i64 1)).bind fun v1 =>
 (O.boolO v1).bind fun b2 => cond b2 (
 some [((Go.Value.int Go.IntKind.i64 0), s)]) (
 (O.conv false s 3 70 a0).bind fun p3 =>
 (O.conv false p3.2 3 70 a1).bind fun p4 =>
 (O.bop .rem 70 p3.1 p4.1).bind fun v5 =>
 (O.conv false p4.2 70 3 v5).bind fun p6 =>
 some [(p6.1, p6.2)])
theorem f20_r (C : OracleJ H) (n : Nat) (a0 : Value) (a1 : Value) (s : St H) : bodyD Try.prog false C n 20 Try.f20 [a0, a1] s = f20 (dOps (H := H) Try.prog) C n a0 a1 s := by kernel_rfl
/-! tidepole/tidepolebase.SameBytes -/
noncomputable def f26 (O : Ops H) (C : OracleJ H) (n : Nat) (a0 : Value) (a1 : Value) (s : St H) : Option (List (Value × St H)) :=
 (O.conv false s 35 9 a0).bind fun p1 =>
 (O.conv false p1.2 35 9 a1).bind fun p2 =>
 (O.bop .eql 9 p1.1 p2.1).bind fun v3 =>
 some [(v3, p2.2)]
theorem f26_r (C : OracleJ H) (n : Nat) (a0 : Value) (a1 : Value) (s : St H) : bodyD Try.prog false C n 26 Try.f26 [a0, a1] s = f26 (dOps (H := H) Try.prog) C n a0 a1 s := by kernel_rfl
/-! tidepole/tidepolelaw15.works -/
noncomputable def f30 (O : Ops H) (C : OracleJ H) (n : Nat) (s : St H) : Option (List (Value × St H)) :=
 (O.buildSlice false s 45 3 [(0, (Go.Value.string { data := #[106, 111, 98] })), (1, (Go.Value.string { data := #[97, 112, 105] })), (2, (Go.Value.string { data := #[106, 111] }))]).bind fun p1 =>
 (C (.fn 32) [p1.1] p1.2).bind fun L2 => manyK L2 fun v3 s4 =>
 (O.extract v3 0).bind fun v5 =>
 (O.extract v3 1).bind fun v6 =>
 (O.alloc s4 50).bind fun p7 =>
 (O.store p7.2 50 p7.1 v5).bind fun s8 =>
 (O.fieldAddr 50 p7.1 0).bind fun v9 =>
 (O.load s8 48 v9).bind fun v10 =>
 (C (.fn 34) [v10, (Go.Value.int Go.IntKind.i64 1)] s8).bind fun L11 => manyK L11 fun v12 s13 =>
 (O.extract v12 0).bind fun v14 =>
 (O.extract v12 1).bind fun v15 =>
 (O.fieldAddr 50 p7.1 0).bind fun v16 =>
 (O.load s13 48 v16).bind fun v17 =>
 (C (.fn 35) [v17, (Go.Value.string { data := #[106, 111, 98] })] s13).bind fun L18 => manyK L18 fun v19 s20 =>
 (O.extract v19 0).bind fun v21 =>
 (O.extract v19 1).bind fun v22 =>
 (O.bop .eql 26 v6 (Go.Value.int Go.IntKind.i64 0)).bind fun v23 =>
 gd v23 (
 (O.bop .eql 9 v14 (Go.Value.string { data := #[106, 111] })).bind fun v24 =>
 gd v24 (
 (O.bop .eql 26 v15 (Go.Value.int Go.IntKind.i64 0)).bind fun v25 =>
 gd v25 (
 (O.bop .eql 3 v21 (Go.Value.int Go.IntKind.i64 2)).bind fun v26 =>
 gd v26 (
 gd v22 (
 (O.load s20 50 p7.1).bind fun v27 =>
 (C (.fn 36) [v27] s20).bind fun L28 => manyK L28 fun v29 s30 =>
 (O.buildSlice false s30 35 13 [(0, (Go.Value.int Go.IntKind.u8 3)), (1, (Go.Value.int Go.IntKind.u8 0)), (2, (Go.Value.int Go.IntKind.u8 3)), (3, (Go.Value.int Go.IntKind.u8 97)), (4, (Go.Value.int Go.IntKind.u8 112)), (5, (Go.Value.int Go.IntKind.u8 105)), (6, (Go.Value.int Go.IntKind.u8 0)), (7, (Go.Value.int Go.IntKind.u8 2)), (8, (Go.Value.int Go.IntKind.u8 106)), (9, (Go.Value.int Go.IntKind.u8 111)), (10, (Go.Value.int Go.IntKind.u8 2)), (11, (Go.Value.int Go.IntKind.u8 1)), (12, (Go.Value.int Go.IntKind.u8 98))]).bind fun p31 =>
 (C (.fn 26) [v29, p31.1] p31.2).bind fun L32 => manyK L32 fun v33 s34 =>
 some [(v33, s34)]) (
 some [((.bool false), s20)]) (
 none)) (
 some [((.bool false), s20)]) (
 none)) (
 some [((.bool false), s20)]) (
 none)) (
 some [((.bool false), s20)]) (
 none)) (
 some [((.bool false), s20)]) (
 none)
theorem f30_r (C : OracleJ H) (n : Nat) (s : St H) : bodyD Try.prog false C n 30 Try.f30 [] s = f30 (dOps (H := H) Try.prog) C n s := by kernel_rfl
/-! tidepole/tidepolelaw15.few -/
def f31_l0_m (i0 : Value) (i2 : Value) (i5 : Value) (x : Value × Value) : List Value := [i0, undefV, i2, x.1, x.2, i5, dc, dc, dc, dc, dc, dc, dc, dc, dc, dc, dc, dc, dc, dc, dc, dc, dc, dc, dc, dc, dc, dc, dc, dc, undefV]
noncomputable def f31_l0 (O : Ops H) (C : OracleJ H) (n : Nat) (i0 : Value) (nx : (Value × Value) → St H → Option (List (Value × St H))) (kx : Nat → (Value × Value) → St H → Option (List (Value × St H))) (kr : (Value × Value) → St H → Option (List (Value × St H))) (x : Value × Value) (s : St H) : Option (List (Value × St H)) :=
 jn (fun (j124_13 : Value) =>
 (O.boolO j124_13).bind fun b16 => cond b16 (
 (O.indexAddr 45 i0 x.2).bind fun v17 =>
 (O.load s 9 v17).bind fun v18 =>
 (O.indexAddr 45 i0 x.2).bind fun v19 =>
 (O.load s 9 v19).bind fun v20 =>
 (O.len s 9 v20).bind fun v21 =>
 (O.minO v21 [(Go.Value.int Go.IntKind.i64 257)]).bind fun v22 =>
 (O.slc s 9 v18 none (some v22) none).bind fun v23 =>
 (O.buildSlice true s 45 1 [(0, v23)]).bind fun p24 =>
 (O.append true p24.2 45 45 x.1 p24.1).bind fun p25 =>
 (O.bop .add 3 x.2 (Go.Value.int Go.IntKind.i64 1)).bind fun v26 =>
 nx (p25.1, v26) p25.2) (
 kx 0 (x.1, x.2) s)) fun k124 =>
 (O.len s 45 i0).bind fun v2 =>
 (O.bop .lss 3 x.2 v2).bind fun v3 =>
 gd v3 (
 (O.bop .lss 3 x.2 (Go.Value.int Go.IntKind.i64 60)).bind fun v4 =>
 k124 v4) (
 k124 (.bool false)) (
 none)
theorem f31_l0_b (C : OracleJ H) (n : Nat) (i0 : Value) (i2 : Value) (i5 : Value) (x : Value × Value) (s : St H) (nx : List Value → St H → Option (List (Value × St H))) (K : Ex → List Value → St H → Option (List (Value × St H))) :
 exec Try.prog true C n 31 none (cdp Try.f31 [1, 1, 0, 1, 0, 0]) (f31_l0_m i0 i2 i5 x) s (kIter (scratch (cdp Try.f31 [1, 1, 0, 1, 0, 0])) nx K) = f31_l0 (dOps (H := H) Try.prog) C n i0 (fun x s => nx (f31_l0_m i0 i2 i5 x) s) (fun i x s => K (.exit i) (f31_l0_m i0 i2 i5 x) s) (fun x s => K .ret (f31_l0_m i0 i2 i5 x) s) x s := by kernel_rfl
theorem f31_l0_e (C : OracleJ H) (n : Nat) (i0 : Value) (i2 : Value) (i5 : Value) (m : Nat) (x : Value × Value) (s : St H) (K : Ex → List Value → St H → Option (List (Value × St H))) :
 iter (fun t s k => exec Try.prog true C n 31 none (cdp Try.f31 [1, 1, 0, 1, 0, 0]) t s k) (scratch (cdp Try.f31 [1, 1, 0, 1, 0, 0])) m (f31_l0_m i0 i2 i5 x) s K = iterS (f31_l0 (dOps (H := H) Try.prog) C n i0) (fun i x s => K (.exit i) (f31_l0_m i0 i2 i5 x) s) (fun x s => K .ret (f31_l0_m i0 i2 i5 x) s) m x s :=
   iter_eq (f31_l0_m i0 i2 i5) (f31_l0 (dOps (H := H) Try.prog) C n i0) (fun x s nx K => f31_l0_b C n i0 i2 i5 x s nx K) K m x s
noncomputable def f31 (O : Ops H) (C : OracleJ H) (n : Nat) (a0 : Value) (s : St H) : Option (List (Value × St H)) :=
 (O.buildSlice true s 45 0 []).bind fun p1 =>
 iterS (f31_l0 O C n a0 )
 (fun i27 x28 s29 => (bif Nat.beq i27 0 then
 some [(x28.1, s29)] else none))
 (fun x30 s31 => some [((fzV 2 #[]), s31)]) n (p1.1, (Go.Value.int Go.IntKind.i64 0)) p1.2
theorem f31_l0_k (C : OracleJ H) (n : Nat) (i0 : Value) (i2 : Value) (i5 : Value) (i : Nat) (x : Value × Value) (s : St H) : (kBlock 0 (kSeq Try.prog true C n 31 none (cdp Try.f31 [1, 1, 1]) (kFun Try.prog Try.f31))) (.exit i) (f31_l0_m i0 i2 i5 x) s =
 (bif Nat.beq i 0 then
 some [(x.1, s)] else none) := by kernel_rfl
theorem f31_r (C : OracleJ H) (n : Nat) (a0 : Value) (s : St H) : bodyD Try.prog true C n 31 Try.f31 [a0] s = f31 (dOps (H := H) Try.prog) C n a0 s := by
  have h1 : bodyD Try.prog true C n 31 Try.f31 [a0] s =
 ((dOps (H := H) Try.prog).buildSlice true s 45 0 []).bind fun p32 =>
 iter (fun t s k => exec Try.prog true C n 31 none (cdp Try.f31 [1, 1, 0, 1, 0, 0]) t s k) (scratch (cdp Try.f31 [1, 1, 0, 1, 0, 0])) n (f31_l0_m a0 (fzV 2 #[]) p32.1 (p32.1, (Go.Value.int Go.IntKind.i64 0))) p32.2 (kBlock 0 (kSeq Try.prog true C n 31 none (cdp Try.f31 [1, 1, 1]) (kFun Try.prog Try.f31))) := by kernel_rfl
  rw [h1]
  simp only [f31_l0_e, f31_l0_k]
  show _ = f31 (dOps (H := H) Try.prog) C n a0 s
  kernel_rfl
/-! tidepole/sym.Make -/
noncomputable def f32 (O : Ops H) (C : OracleJ H) (n : Nat) (a0 : Value) (s : St H) : Option (List (Value × St H)) :=
 (O.alloc s 50).bind fun p1 =>
 (C (.fn 81) [a0] p1.2).bind fun L2 => manyK L2 fun v3 s4 =>
 (C (.fn 82) [v3] s4).bind fun L5 => manyK L5 fun v6 s7 =>
 (C (.fn 83) [v3] s7).bind fun L8 => manyK L8 fun v9 s10 =>
 jn (fun (j144_17 : Value) (js144 : St H) =>
 (O.boolO j144_17).bind fun b20 => cond b20 (
 (O.build 50 []).bind fun v21 =>
 (O.store js144 50 p1.1 v21).bind fun s22 =>
 (O.load s22 50 p1.1).bind fun v23 => some [(.tuple #[v23, (Go.Value.int Go.IntKind.i64 3)], s22)]) (
 (O.build 48 [(0, v9)]).bind fun v24 =>
 (O.build 50 [(0, v24)]).bind fun v25 =>
 (O.store js144 50 p1.1 v25).bind fun s26 =>
 (O.load s26 50 p1.1).bind fun v27 => some [(.tuple #[v27, (Go.Value.int Go.IntKind.i64 0)], s26)])) fun k144 =>
 (O.len s10 45 v9).bind fun v11 =>
 (O.bop .gtr 3 v11 (Go.Value.int Go.IntKind.i64 4096)).bind fun v12 =>
 gd v12 (
 k144 (.bool true) s10) (
 (C (.fn 84) [v9, (.func (.func 85) #[] #[])] s10).bind fun L13 => manyK L13 fun v14 s15 =>
 k144 v14 s15) (
 none)
theorem f32_r (C : OracleJ H) (n : Nat) (a0 : Value) (s : St H) : bodyD Try.prog false C n 32 Try.f32 [a0] s = f32 (dOps (H := H) Try.prog) C n a0 s := by kernel_rfl
/-! (tidepole/sym.list).Len -/
noncomputable def f33 (O : Ops H) (C : OracleJ H) (n : Nat) (a0 : Value) (s : St H) : Option (List (Value × St H)) :=
 (O.box s a0).bind fun p1 =>
 (O.fieldAddr 48 p1.1 0).bind fun v2 =>
 (O.load p1.2 45 v2).bind fun v3 =>
 (O.len p1.2 45 v3).bind fun v4 =>
 some [(v4, p1.2)]
theorem f33_r (C : OracleJ H) (n : Nat) (a0 : Value) (s : St H) : bodyD Try.prog false C n 33 Try.f33 [a0] s = f33 (dOps (H := H) Try.prog) C n a0 s := by kernel_rfl
/-! (tidepole/sym.list).Get -/
noncomputable def f34 (O : Ops H) (C : OracleJ H) (n : Nat) (a0 : Value) (a1 : Value) (s : St H) : Option (List (Value × St H)) :=
 (O.box s a0).bind fun p1 =>
 (O.bop .lss 3 a1 (Go.Value.int Go.IntKind.i64 0)).bind fun v2 =>
 gd v2 (
 some [(.tuple #[(Go.Value.string { data := #[] }), (Go.Value.int Go.IntKind.i64 5)], p1.2)]) (
 (O.fieldAddr 48 p1.1 0).bind fun v3 =>
 (O.load p1.2 45 v3).bind fun v4 =>
 (O.len p1.2 45 v4).bind fun v5 =>
 (O.bop .geq 3 a1 v5).bind fun v6 =>
 (O.boolO v6).bind fun b9 => cond b9 (
 some [(.tuple #[(Go.Value.string { data := #[] }), (Go.Value.int Go.IntKind.i64 5)], p1.2)]) (
 (O.fieldAddr 48 p1.1 0).bind fun v10 =>
 (O.load p1.2 45 v10).bind fun v11 =>
 (O.indexAddr 45 v11 a1).bind fun v12 =>
 (O.load p1.2 9 v12).bind fun v13 =>
 some [(.tuple #[v13, (Go.Value.int Go.IntKind.i64 0)], p1.2)])) (
 none)
theorem f34_r (C : OracleJ H) (n : Nat) (a0 : Value) (a1 : Value) (s : St H) : bodyD Try.prog false C n 34 Try.f34 [a0, a1] s = f34 (dOps (H := H) Try.prog) C n a0 a1 s := by kernel_rfl
/-! (tidepole/sym.list).Find -/
noncomputable def f35 (O : Ops H) (C : OracleJ H) (n : Nat) (a0 : Value) (a1 : Value) (s : St H) : Option (List (Value × St H)) :=
 (O.box s a0).bind fun p1 =>
 (O.fieldAddr 48 p1.1 0).bind fun v2 =>
 (O.load p1.2 45 v2).bind fun v3 =>
 (C (.fn 86) [v3, a1] p1.2).bind fun L4 => manyK L4 fun v5 s6 =>
 (O.extract v5 0).bind fun v7 =>
 (O.extract v5 1).bind fun v8 =>
 some [(.tuple #[v7, v8], s6)]
theorem f35_r (C : OracleJ H) (n : Nat) (a0 : Value) (a1 : Value) (s : St H) : bodyD Try.prog false C n 35 Try.f35 [a0, a1] s = f35 (dOps (H := H) Try.prog) C n a0 a1 s := by kernel_rfl
/-! (tidepole/sym.Table).Bytes -/
noncomputable def f36 (O : Ops H) (C : OracleJ H) (n : Nat) (a0 : Value) (s : St H) : Option (List (Value × St H)) :=
 (O.box s a0).bind fun p1 =>
 (O.fieldAddr 50 p1.1 0).bind fun v2 =>
 (O.load p1.2 48 v2).bind fun v3 =>
 (C (.fn 33) [v3] p1.2).bind fun L4 => manyK L4 fun v5 s6 =>
 (O.conv false s6 3 70 v5).bind fun p7 =>
 (C (.fn 72) [(fzV 2 #[]), p7.1] p7.2).bind fun L8 => manyK L8 fun v9 s10 =>
 (O.alloc s10 35).bind fun p11 =>
 (O.store p11.2 35 p11.1 v9).bind fun s12 =>
 (O.alloc s12 9).bind fun p13 =>
 (O.store p13.2 9 p13.1 (Go.Value.string { data := #[] })).bind fun s14 =>
 (O.fieldAddr 50 p1.1 0).bind fun v15 =>
 (O.load s14 48 v15).bind fun v16 =>
 (C (.fn 87) [v16] s14).bind fun L17 => manyK L17 fun v18 s19 =>
 rngO Try.prog O C 36 v18 [a0, p1.1, (fzV 2 #[]), p11.1, p13.1, undefV, undefV, undefV, v2, v3, v5, p7.1, v9, v15, v16, v18, undefV, undefV, undefV, undefV, undefV, undefV, undefV, undefV, undefV, undefV, undefV, undefV, undefV, undefV, undefV, undefV, undefV, undefV, undefV] [16, 17] (cdp Try.f36 [1, 1, 1, 0, 1, 0, 0]) (cdp Try.f36 [1, 1, 1, 0, 1, 0, 1]) s19
 (fun s20 => (O.load s20 35 p11.1).bind fun v25 =>
 some [(v25, s20)])
 (fun s21 => some [((fzV 2 #[]), s21)])
 (fun i23 s22 => (bif Nat.beq i23 0 then
 (O.load s22 35 p11.1).bind fun v26 =>
 some [(v26, s22)] else none))
theorem f36_r (C : OracleJ H) (n : Nat) (a0 : Value) (s : St H) : bodyD Try.prog false C n 36 Try.f36 [a0] s = f36 (dOps (H := H) Try.prog) C n a0 s := by kernel_rfl
noncomputable def f36_r0 (O : Ops H) (C : OracleJ H) (n : Nat) (l : Nat) (i3 : Value) (i4 : Value) (x0 : Value) (x1 : Value) (s : St H) : Option (List (Value × St H)) :=
 (beginD s l).bind fun s27 =>
 (O.load s27 9 i4).bind fun v28 =>
 (C (.fn 88) [v28, x1] s27).bind fun L29 => manyK L29 fun v30 s31 =>
 (O.load s31 35 i3).bind fun v32 =>
 (O.conv false s31 3 70 v30).bind fun p33 =>
 (oneO C (.fn 72) [v32, p33.1] p33.2).bind fun p34 =>
 (O.slc p34.2 9 x1 (some v30) none none).bind fun v35 =>
 (O.conv false p34.2 9 35 v35).bind fun p36 =>
 (oneO C (.fn 73) [p34.1, p36.1] p36.2).bind fun p37 =>
 (O.extract p37.1 0).bind fun v38 =>
 (O.extract p37.1 1).bind fun v39 =>
 (O.store p37.2 35 i3 v38).bind fun s40 =>
 bif (eqO H ((O.conv false s31 9 35 v35).map (·.1)) p36.1 && (eqO H ((O.conv false p34.2 9 35 v35).map (·.1)) p36.1 && (true))) && (true) then
 (O.store s40 9 i4 x1).bind fun s41 =>
 (setLoopD s41 l 0 none).map fun s => [((.bool true), s)]
 else none
theorem f36_r0_x (C : OracleJ H) (n : Nat) (l : Nat) (i0 : Value) (i1 : Value) (i2 : Value) (i3 : Value) (i4 : Value) (i5 : Value) (i6 : Value) (i7 : Value) (i8 : Value) (i9 : Value) (i10 : Value) (i11 : Value) (i12 : Value) (i13 : Value) (i14 : Value) (i15 : Value) (i16 : Value) (i17 : Value) (i18 : Value) (i19 : Value) (i20 : Value) (i21 : Value) (i22 : Value) (i23 : Value) (i24 : Value) (i25 : Value) (i26 : Value) (i27 : Value) (i28 : Value) (i29 : Value) (i30 : Value) (i31 : Value) (i32 : Value) (i33 : Value) (i34 : Value) (x0 : Value) (x1 : Value) (s : St H) : exec Try.prog false C n 36 (some l) (cdp Try.f36 [1, 1, 1, 0, 1, 0, 0]) [i0, i1, i2, i3, i4, i5, i6, i7, i8, i9, i10, i11, i12, i13, i14, i15, x0, x1, i18, i19, i20, i21, i22, i23, i24, i25, i26, i27, i28, i29, i30, i31, i32, i33, i34] s (kAsg Try.prog false C n 36 l (cdp Try.f36 [1, 1, 1, 0, 1, 0, 1])) = f36_r0 (dOps (H := H) Try.prog) C n l i3 i4 x0 x1 s := by kernel_rfl
theorem f36_r0_e {C : OracleJ H} {rw : FuncId → Bool} {n l : Nat} {pe : Option Code} {i0 i1 i2 i3 i4 i5 i6 i7 i8 i9 i10 i11 i12 i13 i14 i15 i16 i17 i18 i19 i20 i21 i22 i23 i24 i25 i26 i27 i28 i29 i30 i31 i32 i33 i34 : Value} {s : St H} (hrw : rw 36 = false) (h : loopD s l = some (0, pe, 36, [i0, i1, i2, i3, i4, i5, i6, i7, i8, i9, i10, i11, i12, i13, i14, i15, i16, i17, i18, i19, i20, i21, i22, i23, i24, i25, i26, i27, i28, i29, i30, i31, i32, i33, i34], [16, 17], cdp Try.f36 [1, 1, 1, 0, 1, 0, 0], cdp Try.f36 [1, 1, 1, 0, 1, 0, 1])) (x0 : Value) (x1 : Value) : roundD Try.prog rw C n l [x0, x1] s = f36_r0 (dOps (H := H) Try.prog) C n l i3 i4 x0 x1 s := by (unfold roundD; rw [h, bindS, hrw]; exact f36_r0_x C n l i0 i1 i2 i3 i4 i5 i6 i7 i8 i9 i10 i11 i12 i13 i14 i15 i16 i17 i18 i19 i20 i21 i22 i23 i24 i25 i26 i27 i28 i29 i30 i31 i32 i33 i34 x0 x1 s)
/-! tidepole/sym.Read -/
def f37_l0_m (i0 : Value) (i4 : Value) (i7 : Value) (i8 : Value) (i15 : Value) (i16 : Value) (i17 : Value) (i18 : Value) (i19 : Value) (i20 : Value) (i21 : Value) (i22 : Value) (i23 : Value) (i24 : Value) (i27 : Value) (i28 : Value) (i29 : Value) (i31 : Value) (i32 : Value) (x : Value × Value × Value × Value × Value × Value × Value × Value × Value × Value × Value × Value) : List Value := [i0, x.1, undefV, undefV, i4, x.2.1, x.2.2.1, i7, i8, x.2.2.2.1, x.2.2.2.2.1, x.2.2.2.2.2.1, x.2.2.2.2.2.2.1, x.2.2.2.2.2.2.2.1, x.2.2.2.2.2.2.2.2.1, i15, i16, i17, i18, i19, i20, i21, i22, i23, i24, undefV, undefV, i27, i28, i29, undefV, i31, i32, x.2.2.2.2.2.2.2.2.2.1, dc, dc, dc, dc, dc, dc, dc, dc, dc, dc, x.2.2.2.2.2.2.2.2.2.2.1, dc, dc, dc, dc, x.2.2.2.2.2.2.2.2.2.2.2, dc, dc, dc, dc, dc, dc, dc, dc, dc, dc, dc, dc, dc, dc, dc, undefV, undefV, undefV, undefV]
noncomputable def f37_l0 (O : Ops H) (C : OracleJ H) (n : Nat) (i0 : Value) (i4 : Value) (i32 : Value) (nx : (Value × Value × Value × Value × Value × Value × Value × Value × Value × Value × Value × Value) → St H → Option (List (Value × St H))) (kx : Nat → (Value × Value × Value × Value × Value × Value × Value × Value × Value × Value × Value × Value) → St H → Option (List (Value × St H))) (kr : (Value × Value × Value × Value × Value × Value × Value × Value × Value × Value × Value × Value) → St H → Option (List (Value × St H))) (x : Value × Value × Value × Value × Value × Value × Value × Value × Value × Value × Value × Value) (s : St H) : Option (List (Value × St H)) :=
 (O.bop .lss 3 x.2.2.2.2.2.2.2.2.2.1 i32).bind fun v19 =>
 (O.boolO v19).bind fun b20 => cond b20 (
 (C (.fn 89) [i0, x.1, x.2.2.2.2.1] s).bind fun L21 => manyK L21 fun v22 s23 =>
 (O.extract v22 0).bind fun v24 =>
 (O.extract v22 1).bind fun v25 =>
 (O.extract v22 2).bind fun v26 =>
 (O.bop .neq 26 v26 (Go.Value.int Go.IntKind.i64 0)).bind fun v27 =>
 (O.boolO v27).bind fun b28 => cond b28 (
 (O.build 50 []).bind fun v29 =>
 (O.store s23 50 i4 v29).bind fun s30 =>
 kr (x.1, (Go.Value.int Go.IntKind.i64 0), v26, x.2.2.2.1, x.2.2.2.2.1, x.2.2.2.2.2.2.2.2.2.1, v24, v25, v26, x.2.2.2.2.2.2.2.2.2.1, v27, x.2.2.2.2.2.2.2.2.2.2.2) s30) (
 jn (fun (j200_49 : Value) =>
 (O.boolO j200_49).bind fun b36 => cond b36 (
 (O.build 50 []).bind fun v37 =>
 (O.store s23 50 i4 v37).bind fun s38 =>
 kr (x.1, (Go.Value.int Go.IntKind.i64 0), (Go.Value.int Go.IntKind.i64 150), x.2.2.2.1, x.2.2.2.2.1, x.2.2.2.2.2.2.2.2.2.1, v24, v25, v26, x.2.2.2.2.2.2.2.2.2.1, v27, j200_49) s38) (
 (O.buildSlice false s23 45 1 [(0, v24)]).bind fun p39 =>
 (O.append false p39.2 45 45 x.2.2.2.1 p39.1).bind fun p40 =>
 (O.bop .add 3 x.2.2.2.2.2.2.2.2.2.1 (Go.Value.int Go.IntKind.i64 1)).bind fun v41 =>
 nx (v25, x.2.1, x.2.2.1, p40.1, v24, x.2.2.2.2.2.2.2.2.2.1, v24, v25, v26, v41, v27, j200_49) p40.2)) fun k200 =>
 (O.bop .gtr 3 x.2.2.2.2.2.2.2.2.2.1 (Go.Value.int Go.IntKind.i64 0)).bind fun v31 =>
 gd v31 (
 (O.bop .leq 9 v24 x.2.2.2.2.1).bind fun v32 =>
 k200 v32) (
 k200 (.bool false)) (
 none))) (
 kx 1 (x.1, x.2.1, x.2.2.1, x.2.2.2.1, x.2.2.2.2.1, x.2.2.2.2.2.1, x.2.2.2.2.2.2.1, x.2.2.2.2.2.2.2.1, x.2.2.2.2.2.2.2.2.1, x.2.2.2.2.2.2.2.2.2.1, x.2.2.2.2.2.2.2.2.2.2.1, x.2.2.2.2.2.2.2.2.2.2.2) s)
theorem f37_l0_b (C : OracleJ H) (n : Nat) (i0 : Value) (i4 : Value) (i7 : Value) (i8 : Value) (i15 : Value) (i16 : Value) (i17 : Value) (i18 : Value) (i19 : Value) (i20 : Value) (i21 : Value) (i22 : Value) (i23 : Value) (i24 : Value) (i27 : Value) (i28 : Value) (i29 : Value) (i31 : Value) (i32 : Value) (x : Value × Value × Value × Value × Value × Value × Value × Value × Value × Value × Value × Value) (s : St H) (nx : List Value → St H → Option (List (Value × St H))) (K : Ex → List Value → St H → Option (List (Value × St H))) :
 exec Try.prog false C n 37 none (cdp Try.f37 [1, 1, 1, 1, 1, 0, 1, 0, 0]) (f37_l0_m i0 i4 i7 i8 i15 i16 i17 i18 i19 i20 i21 i22 i23 i24 i27 i28 i29 i31 i32 x) s (kIter (scratch (cdp Try.f37 [1, 1, 1, 1, 1, 0, 1, 0, 0])) nx K) = f37_l0 (dOps (H := H) Try.prog) C n i0 i4 i32 (fun x s => nx (f37_l0_m i0 i4 i7 i8 i15 i16 i17 i18 i19 i20 i21 i22 i23 i24 i27 i28 i29 i31 i32 x) s) (fun i x s => K (.exit i) (f37_l0_m i0 i4 i7 i8 i15 i16 i17 i18 i19 i20 i21 i22 i23 i24 i27 i28 i29 i31 i32 x) s) (fun x s => K .ret (f37_l0_m i0 i4 i7 i8 i15 i16 i17 i18 i19 i20 i21 i22 i23 i24 i27 i28 i29 i31 i32 x) s) x s := by kernel_rfl
theorem f37_l0_e (C : OracleJ H) (n : Nat) (i0 : Value) (i4 : Value) (i7 : Value) (i8 : Value) (i15 : Value) (i16 : Value) (i17 : Value) (i18 : Value) (i19 : Value) (i20 : Value) (i21 : Value) (i22 : Value) (i23 : Value) (i24 : Value) (i27 : Value) (i28 : Value) (i29 : Value) (i31 : Value) (i32 : Value) (m : Nat) (x : Value × Value × Value × Value × Value × Value × Value × Value × Value × Value × Value × Value) (s : St H) (K : Ex → List Value → St H → Option (List (Value × St H))) :
 iter (fun t s k => exec Try.prog false C n 37 none (cdp Try.f37 [1, 1, 1, 1, 1, 0, 1, 0, 0]) t s k) (scratch (cdp Try.f37 [1, 1, 1, 1, 1, 0, 1, 0, 0])) m (f37_l0_m i0 i4 i7 i8 i15 i16 i17 i18 i19 i20 i21 i22 i23 i24 i27 i28 i29 i31 i32 x) s K = iterS (f37_l0 (dOps (H := H) Try.prog) C n i0 i4 i32) (fun i x s => K (.exit i) (f37_l0_m i0 i4 i7 i8 i15 i16 i17 i18 i19 i20 i21 i22 i23 i24 i27 i28 i29 i31 i32 x) s) (fun x s => K .ret (f37_l0_m i0 i4 i7 i8 i15 i16 i17 i18 i19 i20 i21 i22 i23 i24 i27 i28 i29 i31 i32 x) s) m x s :=
   iter_eq (f37_l0_m i0 i4 i7 i8 i15 i16 i17 i18 i19 i20 i21 i22 i23 i24 i27 i28 i29 i31 i32) (f37_l0 (dOps (H := H) Try.prog) C n i0 i4 i32) (fun x s nx K => f37_l0_b C n i0 i4 i7 i8 i15 i16 i17 i18 i19 i20 i21 i22 i23 i24 i27 i28 i29 i31 i32 x s nx K) K m x s
noncomputable def f37 (O : Ops H) (C : OracleJ H) (n : Nat) (a0 : Value) (a1 : Value) (s : St H) : Option (List (Value × St H)) :=
 (O.alloc s 50).bind fun p1 =>
 (C (.fn 74) [a0, a1] p1.2).bind fun L2 => manyK L2 fun v3 s4 =>
 (O.extract v3 0).bind fun v5 =>
 (O.extract v3 1).bind fun v6 =>
 (O.extract v3 2).bind fun v7 =>
 (O.bop .neq 26 v7 (Go.Value.int Go.IntKind.i64 0)).bind fun v8 =>
 (O.boolO v8).bind fun b9 => cond b9 (
 (O.build 50 []).bind fun v10 =>
 (O.store s4 50 p1.1 v10).bind fun s11 =>
 (O.load s11 50 p1.1).bind fun v12 => some [(.tuple #[v12, (Go.Value.int Go.IntKind.i64 0), v7], s11)]) (
 (O.bop .gtr 70 v5 (Go.Value.int Go.IntKind.u64 4096)).bind fun v13 =>
 (O.boolO v13).bind fun b14 => cond b14 (
 (O.build 50 []).bind fun v15 =>
 (O.store s4 50 p1.1 v15).bind fun s16 =>
 (O.load s16 50 p1.1).bind fun v17 => some [(.tuple #[v17, (Go.Value.int Go.IntKind.i64 0), (Go.Value.int Go.IntKind.i64 150)], s16)]) (
 (O.conv false s4 70 3 v5).bind fun p18 =>
 iterS (f37_l0 O C n a0 p1.1 p18.1 )
 (fun i42 x43 s44 => (bif Nat.beq i42 1 then
 (O.build 48 [(0, x43.2.2.2.1)]).bind fun v48 =>
 (O.build 50 [(0, v48)]).bind fun v49 =>
 (O.store s44 50 p1.1 v49).bind fun s50 =>
 (O.load s50 50 p1.1).bind fun v51 => some [(.tuple #[v51, x43.1, (Go.Value.int Go.IntKind.i64 0)], s50)] else none))
 (fun x45 s46 => (O.load s46 50 p1.1).bind fun v47 => some [(.tuple #[v47, x45.2.1, x45.2.2.1], s46)]) n (v6, (Go.Value.int Go.IntKind.i64 0), (Go.Value.int Go.IntKind.i64 0), (fzV 2 #[]), (Go.Value.string { data := #[] }), undefV, undefV, undefV, undefV, (Go.Value.int Go.IntKind.i64 0), undefV, undefV) p18.2))
theorem f37_l0_k (C : OracleJ H) (n : Nat) (i0 : Value) (i4 : Value) (i7 : Value) (i8 : Value) (i15 : Value) (i16 : Value) (i17 : Value) (i18 : Value) (i19 : Value) (i20 : Value) (i21 : Value) (i22 : Value) (i23 : Value) (i24 : Value) (i27 : Value) (i28 : Value) (i29 : Value) (i31 : Value) (i32 : Value) (i : Nat) (x : Value × Value × Value × Value × Value × Value × Value × Value × Value × Value × Value × Value) (s : St H) : (kBlock 1 (kSeq Try.prog false C n 37 none (cdp Try.f37 [1, 1, 1, 1, 1, 1]) (kFun Try.prog Try.f37))) (.exit i) (f37_l0_m i0 i4 i7 i8 i15 i16 i17 i18 i19 i20 i21 i22 i23 i24 i27 i28 i29 i31 i32 x) s =
 (bif Nat.beq i 1 then
 ((dOps (H := H) Try.prog).build 48 [(0, x.2.2.2.1)]).bind fun v74 =>
 ((dOps (H := H) Try.prog).build 50 [(0, v74)]).bind fun v75 =>
 ((dOps (H := H) Try.prog).store s 50 i4 v75).bind fun s76 =>
 ((dOps (H := H) Try.prog).load s76 50 i4).bind fun v77 => some [(.tuple #[v77, x.1, (Go.Value.int Go.IntKind.i64 0)], s76)] else none) := by kernel_rfl
theorem f37_r (C : OracleJ H) (n : Nat) (a0 : Value) (a1 : Value) (s : St H) : bodyD Try.prog false C n 37 Try.f37 [a0, a1] s = f37 (dOps (H := H) Try.prog) C n a0 a1 s := by
  have h1 : bodyD Try.prog false C n 37 Try.f37 [a0, a1] s =
 ((dOps (H := H) Try.prog).alloc s 50).bind fun p52 =>
 (C (.fn 74) [a0, a1] p52.2).bind fun L53 => manyK L53 fun v54 s55 =>
 ((dOps (H := H) Try.prog).extract v54 0).bind fun v56 =>
 ((dOps (H := H) Try.prog).extract v54 1).bind fun v57 =>
 ((dOps (H := H) Try.prog).extract v54 2).bind fun v58 =>
 ((dOps (H := H) Try.prog).bop .neq 26 v58 (Go.Value.int Go.IntKind.i64 0)).bind fun v59 =>
 ((dOps (H := H) Try.prog).boolO v59).bind fun b60 => cond b60 (
 ((dOps (H := H) Try.prog).build 50 []).bind fun v61 =>
 ((dOps (H := H) Try.prog).store s55 50 p52.1 v61).bind fun s62 =>
 ((dOps (H := H) Try.prog).load s62 50 p52.1).bind fun v63 => some [(.tuple #[v63, (Go.Value.int Go.IntKind.i64 0), v58], s62)]) (
 ((dOps (H := H) Try.prog).bop .gtr 70 v56 (Go.Value.int Go.IntKind.u64 4096)).bind fun v64 =>
 ((dOps (H := H) Try.prog).boolO v64).bind fun b65 => cond b65 (
 ((dOps (H := H) Try.prog).build 50 []).bind fun v66 =>
 ((dOps (H := H) Try.prog).store s55 50 p52.1 v66).bind fun s67 =>
 ((dOps (H := H) Try.prog).load s67 50 p52.1).bind fun v68 => some [(.tuple #[v68, (Go.Value.int Go.IntKind.i64 0), (Go.Value.int Go.IntKind.i64 150)], s67)]) (
 ((dOps (H := H) Try.prog).conv false s55 70 3 v56).bind fun p69 =>
 iter (fun t s k => exec Try.prog false C n 37 none (cdp Try.f37 [1, 1, 1, 1, 1, 0, 1, 0, 0]) t s k) (scratch (cdp Try.f37 [1, 1, 1, 1, 1, 0, 1, 0, 0])) n (f37_l0_m a0 p52.1 v56 v58 v54 a0 a1 v54 v56 v57 v58 v59 v58 v59 v64 v56 v64 v56 p69.1 (v57, (Go.Value.int Go.IntKind.i64 0), (Go.Value.int Go.IntKind.i64 0), (fzV 2 #[]), (Go.Value.string { data := #[] }), undefV, undefV, undefV, undefV, (Go.Value.int Go.IntKind.i64 0), undefV, undefV)) p69.2 (kBlock 1 (kSeq Try.prog false C n 37 none (cdp Try.f37 [1, 1, 1, 1, 1, 1]) (kFun Try.prog Try.f37))))) := by kernel_rfl
  rw [h1]
  simp only [f37_l0_e, f37_l0_k]
  show _ = f37 (dOps (H := H) Try.prog) C n a0 a1 s
  kernel_rfl
/-! tidepole/tidepolebase.Bytes -/
noncomputable def f38 (O : Ops H) (C : OracleJ H) (n : Nat) (a0 : Value) (s : St H) : Option (List (Value × St H)) :=
 (O.buildSlice false s 35 0 []).bind fun p1 =>
 (O.append false p1.2 35 35 p1.1 a0).bind fun p2 =>
 some [(p2.1, p2.2)]
theorem f38_r (C : OracleJ H) (n : Nat) (a0 : Value) (s : St H) : bodyD Try.prog false C n 38 Try.f38 [a0] s = f38 (dOps (H := H) Try.prog) C n a0 s := by kernel_rfl
/-! tidepole/vint.Put -/
noncomputable def f72 (O : Ops H) (C : OracleJ H) (n : Nat) (a0 : Value) (a1 : Value) (s : St H) : Option (List (Value × St H)) :=
 (C (.fn 123) [a0, a1, (.func (.func 124) #[] #[])] s).bind fun L1 => manyK L1 fun v2 s3 =>
 some [(v2, s3)]
theorem f72_r (C : OracleJ H) (n : Nat) (a0 : Value) (a1 : Value) (s : St H) : bodyD Try.prog false C n 72 Try.f72 [a0, a1] s = f72 (dOps (H := H) Try.prog) C n a0 a1 s := by kernel_rfl
/-! tidepole/vint.PutBytes -/
noncomputable def f73 (O : Ops H) (C : OracleJ H) (n : Nat) (a0 : Value) (a1 : Value) (s : St H) : Option (List (Value × St H)) :=
 (O.len s 35 a1).bind fun v1 =>
 (O.bop .gtr 3 v1 (Go.Value.int Go.IntKind.i64 65536)).bind fun v2 =>
 (O.boolO v2).bind fun b3 => cond b3 (
 some [(.tuple #[(fzV 2 #[]), (Go.Value.int Go.IntKind.i64 3)], s)]) (
 (O.len s 35 a1).bind fun v4 =>
 (O.conv false s 3 70 v4).bind fun p5 =>
 (C (.fn 72) [a0, p5.1] p5.2).bind fun L6 => manyK L6 fun v7 s8 =>
 (O.append false s8 35 35 v7 a1).bind fun p9 =>
 some [(.tuple #[p9.1, (Go.Value.int Go.IntKind.i64 0)], p9.2)])
theorem f73_r (C : OracleJ H) (n : Nat) (a0 : Value) (a1 : Value) (s : St H) : bodyD Try.prog false C n 73 Try.f73 [a0, a1] s = f73 (dOps (H := H) Try.prog) C n a0 a1 s := by kernel_rfl
/-! tidepole/vint.Read -/
def f74_l0_m (i0 : Value) (i1 : Value) (i10 : Value) (i11 : Value) (i13 : Value) (i14 : Value) (i15 : Value) (i16 : Value) (i17 : Value) (i18 : Value) (i19 : Value) (i20 : Value) (i21 : Value) (x : Value × Value × Value × Value × Value × Value × Value × Value) : List Value := [i0, i1, undefV, undefV, x.1, x.2.1, x.2.2.1, x.2.2.2.1, x.2.2.2.2.1, x.2.2.2.2.2.1, i10, i11, (.bool false), i13, i14, i15, i16, i17, i18, i19, i20, i21, x.2.2.2.2.2.2.1, dc, dc, dc, dc, x.2.2.2.2.2.2.2, dc, dc, dc, dc, dc, dc, dc, dc, dc, dc, dc, dc, dc, dc, dc, dc, dc, dc, dc, dc, dc, dc, dc, dc, dc, dc, dc, dc]
noncomputable def f74_l0 (O : Ops H) (C : OracleJ H) (n : Nat) (i1 : Value) (i20 : Value) (i21 : Value) (nx : (Value × Value × Value × Value × Value × Value × Value × Value) → St H → Option (List (Value × St H))) (kx : Nat → (Value × Value × Value × Value × Value × Value × Value × Value) → St H → Option (List (Value × St H))) (kr : (Value × Value × Value × Value × Value × Value × Value × Value) → St H → Option (List (Value × St H))) (x : Value × Value × Value × Value × Value × Value × Value × Value) (s : St H) : Option (List (Value × St H)) :=
 (O.bop .lss 3 x.2.2.2.2.2.2.1 i21).bind fun v9 =>
 (O.boolO v9).bind fun b10 => cond b10 (
 (O.indexAddr 35 i20 x.2.2.2.2.2.2.1).bind fun v11 =>
 (O.load s 5 v11).bind fun v12 =>
 jn (fun (j246_27 : Value) =>
 jn (fun (j253_27 : Value) =>
 (O.boolO j253_27).bind fun b24 => cond b24 (
 kr ((Go.Value.int Go.IntKind.u64 0), (Go.Value.int Go.IntKind.i64 0), (Go.Value.int Go.IntKind.i64 10), x.2.2.2.1, x.2.2.2.2.2.2.1, v12, x.2.2.2.2.2.2.1, j253_27) s) (
 (O.bop .and 5 v12 (Go.Value.int Go.IntKind.u8 127)).bind fun v25 =>
 (O.conv false s 5 70 v25).bind fun p26 =>
 (O.bop .mul 3 (Go.Value.int Go.IntKind.i64 7) x.2.2.2.2.2.2.1).bind fun v27 =>
 (O.bop .shl 70 p26.1 v27).bind fun v28 =>
 (O.bop .or 70 x.2.2.2.1 v28).bind fun v29 =>
 (O.bop .lss 5 v12 (Go.Value.int Go.IntKind.u8 128)).bind fun v30 =>
 (O.boolO v30).bind fun b31 => cond b31 (
 (O.bop .add 3 i1 x.2.2.2.2.2.2.1).bind fun v32 =>
 (O.bop .add 3 v32 (Go.Value.int Go.IntKind.i64 1)).bind fun v33 =>
 kr (v29, v33, (Go.Value.int Go.IntKind.i64 0), v29, x.2.2.2.2.2.2.1, v12, x.2.2.2.2.2.2.1, j253_27) p26.2) (
 (O.bop .add 3 x.2.2.2.2.2.2.1 (Go.Value.int Go.IntKind.i64 1)).bind fun v34 =>
 nx (x.1, x.2.1, x.2.2.1, v29, x.2.2.2.2.2.2.1, v12, v34, j253_27) p26.2))) fun k253 =>
 (O.boolO j246_27).bind fun b20 => cond b20 (
 k253 j246_27) (
 jn (fun (j254_27 : Value) =>
 k253 j254_27) fun k254 =>
 (O.bop .gtr 3 x.2.2.2.2.2.2.1 (Go.Value.int Go.IntKind.i64 0)).bind fun v21 =>
 gd v21 (
 (O.bop .eql 5 v12 (Go.Value.int Go.IntKind.u8 0)).bind fun v22 =>
 k254 v22) (
 k254 (.bool false)) (
 none))) fun k246 =>
 (O.bop .eql 3 x.2.2.2.2.2.2.1 (Go.Value.int Go.IntKind.i64 9)).bind fun v13 =>
 gd v13 (
 (O.bop .gtr 5 v12 (Go.Value.int Go.IntKind.u8 1)).bind fun v14 =>
 k246 v14) (
 k246 (.bool false)) (
 none)) (
 kx 0 (x.1, x.2.1, x.2.2.1, x.2.2.2.1, x.2.2.2.2.1, x.2.2.2.2.2.1, x.2.2.2.2.2.2.1, x.2.2.2.2.2.2.2) s)
theorem f74_l0_b (C : OracleJ H) (n : Nat) (i0 : Value) (i1 : Value) (i10 : Value) (i11 : Value) (i13 : Value) (i14 : Value) (i15 : Value) (i16 : Value) (i17 : Value) (i18 : Value) (i19 : Value) (i20 : Value) (i21 : Value) (x : Value × Value × Value × Value × Value × Value × Value × Value) (s : St H) (nx : List Value → St H → Option (List (Value × St H))) (K : Ex → List Value → St H → Option (List (Value × St H))) :
 exec Try.prog false C n 74 none (cdp Try.f74 [1, 1, 1, 0, 1, 0, 0]) (f74_l0_m i0 i1 i10 i11 i13 i14 i15 i16 i17 i18 i19 i20 i21 x) s (kIter (scratch (cdp Try.f74 [1, 1, 1, 0, 1, 0, 0])) nx K) = f74_l0 (dOps (H := H) Try.prog) C n i1 i20 i21 (fun x s => nx (f74_l0_m i0 i1 i10 i11 i13 i14 i15 i16 i17 i18 i19 i20 i21 x) s) (fun i x s => K (.exit i) (f74_l0_m i0 i1 i10 i11 i13 i14 i15 i16 i17 i18 i19 i20 i21 x) s) (fun x s => K .ret (f74_l0_m i0 i1 i10 i11 i13 i14 i15 i16 i17 i18 i19 i20 i21 x) s) x s := by kernel_rfl
theorem f74_l0_e (C : OracleJ H) (n : Nat) (i0 : Value) (i1 : Value) (i10 : Value) (i11 : Value) (i13 : Value) (i14 : Value) (i15 : Value) (i16 : Value) (i17 : Value) (i18 : Value) (i19 : Value) (i20 : Value) (i21 : Value) (m : Nat) (x : Value × Value × Value × Value × Value × Value × Value × Value) (s : St H) (K : Ex → List Value → St H → Option (List (Value × St H))) :
 iter (fun t s k => exec Try.prog false C n 74 none (cdp Try.f74 [1, 1, 1, 0, 1, 0, 0]) t s k) (scratch (cdp Try.f74 [1, 1, 1, 0, 1, 0, 0])) m (f74_l0_m i0 i1 i10 i11 i13 i14 i15 i16 i17 i18 i19 i20 i21 x) s K = iterS (f74_l0 (dOps (H := H) Try.prog) C n i1 i20 i21) (fun i x s => K (.exit i) (f74_l0_m i0 i1 i10 i11 i13 i14 i15 i16 i17 i18 i19 i20 i21 x) s) (fun x s => K .ret (f74_l0_m i0 i1 i10 i11 i13 i14 i15 i16 i17 i18 i19 i20 i21 x) s) m x s :=
   iter_eq (f74_l0_m i0 i1 i10 i11 i13 i14 i15 i16 i17 i18 i19 i20 i21) (f74_l0 (dOps (H := H) Try.prog) C n i1 i20 i21) (fun x s nx K => f74_l0_b C n i0 i1 i10 i11 i13 i14 i15 i16 i17 i18 i19 i20 i21 x s nx K) K m x s
noncomputable def f74 (O : Ops H) (C : OracleJ H) (n : Nat) (a0 : Value) (a1 : Value) (s : St H) : Option (List (Value × St H)) :=
 (O.bop .lss 3 a1 (Go.Value.int Go.IntKind.i64 0)).bind fun v1 =>
 gd v1 (
 some [(.tuple #[(Go.Value.int Go.IntKind.u64 0), (Go.Value.int Go.IntKind.i64 0), (Go.Value.int Go.IntKind.i64 2)], s)]) (
 (O.len s 35 a0).bind fun v2 =>
 (O.bop .gtr 3 a1 v2).bind fun v3 =>
 (O.boolO v3).bind fun b6 => cond b6 (
 some [(.tuple #[(Go.Value.int Go.IntKind.u64 0), (Go.Value.int Go.IntKind.i64 0), (Go.Value.int Go.IntKind.i64 2)], s)]) (
 (O.slc s 35 a0 (some a1) none none).bind fun v7 =>
 (O.len s 35 v7).bind fun v8 =>
 iterS (f74_l0 O C n a1 v7 v8 )
 (fun i35 x36 s37 => (bif Nat.beq i35 0 then
 some [(.tuple #[(Go.Value.int Go.IntKind.u64 0), (Go.Value.int Go.IntKind.i64 0), (Go.Value.int Go.IntKind.i64 7)], s37)] else none))
 (fun x38 s39 => some [(.tuple #[x38.1, x38.2.1, x38.2.2.1], s39)]) n ((Go.Value.int Go.IntKind.u64 0), (Go.Value.int Go.IntKind.i64 0), (Go.Value.int Go.IntKind.i64 0), (Go.Value.int Go.IntKind.u64 0), undefV, undefV, (Go.Value.int Go.IntKind.i64 0), undefV) s)) (
 none)
theorem f74_l0_k (C : OracleJ H) (n : Nat) (i0 : Value) (i1 : Value) (i10 : Value) (i11 : Value) (i13 : Value) (i14 : Value) (i15 : Value) (i16 : Value) (i17 : Value) (i18 : Value) (i19 : Value) (i20 : Value) (i21 : Value) (i : Nat) (x : Value × Value × Value × Value × Value × Value × Value × Value) (s : St H) : (kBlock 0 (kSeq Try.prog false C n 74 none (cdp Try.f74 [1, 1, 1, 1]) (kFun Try.prog Try.f74))) (.exit i) (f74_l0_m i0 i1 i10 i11 i13 i14 i15 i16 i17 i18 i19 i20 i21 x) s =
 (bif Nat.beq i 0 then
 some [(.tuple #[(Go.Value.int Go.IntKind.u64 0), (Go.Value.int Go.IntKind.i64 0), (Go.Value.int Go.IntKind.i64 7)], s)] else none) := by kernel_rfl
theorem f74_r (C : OracleJ H) (n : Nat) (a0 : Value) (a1 : Value) (s : St H) : bodyD Try.prog false C n 74 Try.f74 [a0, a1] s = f74 (dOps (H := H) Try.prog) C n a0 a1 s := by
  have h1 : bodyD Try.prog false C n 74 Try.f74 [a0, a1] s =
 ((dOps (H := H) Try.prog).bop .lss 3 a1 (Go.Value.int Go.IntKind.i64 0)).bind fun v40 =>
 gd v40 (
 some [(.tuple #[(Go.Value.int Go.IntKind.u64 0), (Go.Value.int Go.IntKind.i64 0), (Go.Value.int Go.IntKind.i64 2)], s)]) (
 ((dOps (H := H) Try.prog).len s 35 a0).bind fun v41 =>
 ((dOps (H := H) Try.prog).bop .gtr 3 a1 v41).bind fun v42 =>
 ((dOps (H := H) Try.prog).boolO v42).bind fun b45 => cond b45 (
 some [(.tuple #[(Go.Value.int Go.IntKind.u64 0), (Go.Value.int Go.IntKind.i64 0), (Go.Value.int Go.IntKind.i64 2)], s)]) (
 ((dOps (H := H) Try.prog).slc s 35 a0 (some a1) none none).bind fun v46 =>
 ((dOps (H := H) Try.prog).len s 35 v46).bind fun v47 =>
 iter (fun t s k => exec Try.prog false C n 74 none (cdp Try.f74 [1, 1, 1, 0, 1, 0, 0]) t s k) (scratch (cdp Try.f74 [1, 1, 1, 0, 1, 0, 0])) n (f74_l0_m a0 a1 a1 v40 a1 a0 v41 v42 v42 a0 a1 v46 v47 ((Go.Value.int Go.IntKind.u64 0), (Go.Value.int Go.IntKind.i64 0), (Go.Value.int Go.IntKind.i64 0), (Go.Value.int Go.IntKind.u64 0), undefV, undefV, (Go.Value.int Go.IntKind.i64 0), undefV)) s (kBlock 0 (kSeq Try.prog false C n 74 none (cdp Try.f74 [1, 1, 1, 1]) (kFun Try.prog Try.f74))))) (
 none) := by kernel_rfl
  rw [h1]
  simp only [f74_l0_e, f74_l0_k]
  show _ = f74 (dOps (H := H) Try.prog) C n a0 a1 s
  kernel_rfl
/-! slices.Clone[[]string,string] -/
noncomputable def f81 (O : Ops H) (C : OracleJ H) (n : Nat) (a0 : Value) (s : St H) : Option (List (Value × St H)) :=
 (O.bop .eql 45 a0 (fzV 2 #[])).bind fun v1 =>
 (O.boolO v1).bind fun b2 => cond b2 (
 some [((fzV 2 #[]), s)]) (
 (O.buildSlice true s 45 0 []).bind fun p3 =>
 (O.append true p3.2 45 45 p3.1 a0).bind fun p4 =>
 some [(p4.1, p4.2)])
theorem f81_r (C : OracleJ H) (n : Nat) (a0 : Value) (s : St H) : bodyD Try.prog true C n 81 Try.f81 [a0] s = f81 (dOps (H := H) Try.prog) C n a0 s := by kernel_rfl
/-! slices.Compact[[]string,string] -/
def f83_l1_m (i0 : Value) (i2 : Value) (i4 : Value) (i6 : Value) (i7 : Value) (i8 : Value) (i10 : Value) (i11 : Value) (i12 : Value) (i13 : Value) (i16 : Value) (i17 : Value) (i18 : Value) (i19 : Value) (i20 : Value) (i21 : Value) (i22 : Value) (i23 : Value) (i24 : Value) (i25 : Value) (i26 : Value) (i27 : Value) (i28 : Value) (x : Value × Value) : List Value := [i0, undefV, i2, x.1, i4, x.2, i6, i7, i8, undefV, i10, i11, i12, i13, dc, dc, i16, i17, i18, i19, i20, i21, i22, i23, i24, i25, i26, i27, i28, dc, dc, dc, dc, dc, dc, dc, dc, dc, dc, dc, dc, dc, dc, dc, dc, dc, dc, dc, dc, dc, dc, dc, dc, dc, dc, dc, dc, dc, dc, dc, undefV]
noncomputable def f83_l1 (O : Ops H) (C : OracleJ H) (n : Nat) (i0 : Value) (i4 : Value) (nx : (Value × Value) → St H → Option (List (Value × St H))) (kx : Nat → (Value × Value) → St H → Option (List (Value × St H))) (kr : (Value × Value) → St H → Option (List (Value × St H))) (x : Value × Value) (s : St H) : Option (List (Value × St H)) :=
 (O.len s 45 i4).bind fun v15 =>
 (O.bop .lss 3 x.2 v15).bind fun v16 =>
 (O.boolO v16).bind fun b17 => cond b17 (
 (O.indexAddr 45 i4 x.2).bind fun v18 =>
 (O.load s 9 v18).bind fun v19 =>
 (O.bop .sub 3 x.2 (Go.Value.int Go.IntKind.i64 1)).bind fun v20 =>
 (O.indexAddr 45 i4 v20).bind fun v21 =>
 (O.load s 9 v21).bind fun v22 =>
 (O.bop .neq 9 v19 v22).bind fun v23 =>
 jn (fun (j299_3 : Value) (js299 : St H) =>
 (O.bop .add 3 x.2 (Go.Value.int Go.IntKind.i64 1)).bind fun v30 =>
 nx (j299_3, v30) js299) fun k299 =>
 (O.boolO v23).bind fun b24 => cond b24 (
 (O.indexAddr 45 i4 x.2).bind fun v25 =>
 (O.load s 9 v25).bind fun v26 =>
 (O.indexAddr 45 i0 x.1).bind fun v27 =>
 (O.store s 9 v27 v26).bind fun s28 =>
 (O.bop .add 3 x.1 (Go.Value.int Go.IntKind.i64 1)).bind fun v29 =>
 k299 v29 s28) (
 k299 x.1 s)) (
 kx 2 (x.1, x.2) s)
theorem f83_l1_b (C : OracleJ H) (n : Nat) (i0 : Value) (i2 : Value) (i4 : Value) (i6 : Value) (i7 : Value) (i8 : Value) (i10 : Value) (i11 : Value) (i12 : Value) (i13 : Value) (i16 : Value) (i17 : Value) (i18 : Value) (i19 : Value) (i20 : Value) (i21 : Value) (i22 : Value) (i23 : Value) (i24 : Value) (i25 : Value) (i26 : Value) (i27 : Value) (i28 : Value) (x : Value × Value) (s : St H) (nx : List Value → St H → Option (List (Value × St H))) (K : Ex → List Value → St H → Option (List (Value × St H))) :
 exec Try.prog false C n 83 none (cdp Try.f83 [1, 1, 0, 1, 0, 0, 1, 0, 0, 1, 0, 1, 0, 1, 0, 0]) (f83_l1_m i0 i2 i4 i6 i7 i8 i10 i11 i12 i13 i16 i17 i18 i19 i20 i21 i22 i23 i24 i25 i26 i27 i28 x) s (kIter (scratch (cdp Try.f83 [1, 1, 0, 1, 0, 0, 1, 0, 0, 1, 0, 1, 0, 1, 0, 0])) nx K) = f83_l1 (dOps (H := H) Try.prog) C n i0 i4 (fun x s => nx (f83_l1_m i0 i2 i4 i6 i7 i8 i10 i11 i12 i13 i16 i17 i18 i19 i20 i21 i22 i23 i24 i25 i26 i27 i28 x) s) (fun i x s => K (.exit i) (f83_l1_m i0 i2 i4 i6 i7 i8 i10 i11 i12 i13 i16 i17 i18 i19 i20 i21 i22 i23 i24 i25 i26 i27 i28 x) s) (fun x s => K .ret (f83_l1_m i0 i2 i4 i6 i7 i8 i10 i11 i12 i13 i16 i17 i18 i19 i20 i21 i22 i23 i24 i25 i26 i27 i28 x) s) x s := by kernel_rfl
theorem f83_l1_e (C : OracleJ H) (n : Nat) (i0 : Value) (i2 : Value) (i4 : Value) (i6 : Value) (i7 : Value) (i8 : Value) (i10 : Value) (i11 : Value) (i12 : Value) (i13 : Value) (i16 : Value) (i17 : Value) (i18 : Value) (i19 : Value) (i20 : Value) (i21 : Value) (i22 : Value) (i23 : Value) (i24 : Value) (i25 : Value) (i26 : Value) (i27 : Value) (i28 : Value) (m : Nat) (x : Value × Value) (s : St H) (K : Ex → List Value → St H → Option (List (Value × St H))) :
 iter (fun t s k => exec Try.prog false C n 83 none (cdp Try.f83 [1, 1, 0, 1, 0, 0, 1, 0, 0, 1, 0, 1, 0, 1, 0, 0]) t s k) (scratch (cdp Try.f83 [1, 1, 0, 1, 0, 0, 1, 0, 0, 1, 0, 1, 0, 1, 0, 0])) m (f83_l1_m i0 i2 i4 i6 i7 i8 i10 i11 i12 i13 i16 i17 i18 i19 i20 i21 i22 i23 i24 i25 i26 i27 i28 x) s K = iterS (f83_l1 (dOps (H := H) Try.prog) C n i0 i4) (fun i x s => K (.exit i) (f83_l1_m i0 i2 i4 i6 i7 i8 i10 i11 i12 i13 i16 i17 i18 i19 i20 i21 i22 i23 i24 i25 i26 i27 i28 x) s) (fun x s => K .ret (f83_l1_m i0 i2 i4 i6 i7 i8 i10 i11 i12 i13 i16 i17 i18 i19 i20 i21 i22 i23 i24 i25 i26 i27 i28 x) s) m x s :=
   iter_eq (f83_l1_m i0 i2 i4 i6 i7 i8 i10 i11 i12 i13 i16 i17 i18 i19 i20 i21 i22 i23 i24 i25 i26 i27 i28) (f83_l1 (dOps (H := H) Try.prog) C n i0 i4) (fun x s nx K => f83_l1_b C n i0 i2 i4 i6 i7 i8 i10 i11 i12 i13 i16 i17 i18 i19 i20 i21 i22 i23 i24 i25 i26 i27 i28 x s nx K) K m x s
def f83_l0_m (i0 : Value) (i6 : Value) (i7 : Value) (i8 : Value) (x : Value × Value × Value × Value) : List Value := [i0, undefV, x.1, x.2.1, x.2.2.1, x.2.2.2, i6, i7, i8, undefV, dc, dc, dc, dc, dc, dc, dc, dc, dc, dc, dc, dc, dc, dc, dc, dc, dc, dc, dc, dc, dc, dc, dc, dc, dc, dc, dc, dc, dc, dc, dc, dc, dc, dc, dc, dc, dc, dc, dc, dc, dc, dc, dc, dc, dc, dc, dc, dc, dc, dc, undefV]
noncomputable def f83_l0 (O : Ops H) (C : OracleJ H) (n : Nat) (i0 : Value) (nx : (Value × Value × Value × Value) → St H → Option (List (Value × St H))) (kx : Nat → (Value × Value × Value × Value) → St H → Option (List (Value × St H))) (kr : (Value × Value × Value × Value) → St H → Option (List (Value × St H))) (x : Value × Value × Value × Value) (s : St H) : Option (List (Value × St H)) :=
 (O.len s 45 i0).bind fun v4 =>
 (O.bop .lss 3 x.2.1 v4).bind fun v5 =>
 (O.boolO v5).bind fun b6 => cond b6 (
 (O.indexAddr 45 i0 x.2.1).bind fun v7 =>
 (O.load s 9 v7).bind fun v8 =>
 (O.bop .sub 3 x.2.1 (Go.Value.int Go.IntKind.i64 1)).bind fun v9 =>
 (O.indexAddr 45 i0 v9).bind fun v10 =>
 (O.load s 9 v10).bind fun v11 =>
 (O.bop .eql 9 v8 v11).bind fun v12 =>
 (O.boolO v12).bind fun b13 => cond b13 (
 (O.slc s 45 i0 (some x.2.1) none none).bind fun v14 =>
 iterS (f83_l1 O C n i0 v14 )
 (fun i31 x32 s33 => (bif Nat.beq i31 2 then
 (O.slc s33 45 i0 (some x32.1) none none).bind fun v36 =>
 (O.clear s33 45 v36).bind fun s37 =>
 (O.slc s37 45 i0 none (some x32.1) none).bind fun v38 =>
 kr (v38, x32.1, v14, x32.2) s37 else (bif Nat.beq i31 1 then
 (O.bop .add 3 x32.1 (Go.Value.int Go.IntKind.i64 1)).bind fun v40 =>
 nx (x.1, v40, v14, x32.2) s33 else kx i31 (x.1, x32.1, v14, x32.2) s33)))
 (fun x34 s35 => kr (x.1, x34.1, v14, x34.2) s35) n (x.2.1, (Go.Value.int Go.IntKind.i64 1)) s) (
 (O.bop .add 3 x.2.1 (Go.Value.int Go.IntKind.i64 1)).bind fun v41 =>
 nx (x.1, v41, x.2.2.1, x.2.2.2) s)) (
 kx 0 (x.1, x.2.1, x.2.2.1, x.2.2.2) s)
theorem f83_l1_k (C : OracleJ H) (n : Nat) (i0 : Value) (i2 : Value) (i4 : Value) (i6 : Value) (i7 : Value) (i8 : Value) (i10 : Value) (i11 : Value) (i12 : Value) (i13 : Value) (i16 : Value) (i17 : Value) (i18 : Value) (i19 : Value) (i20 : Value) (i21 : Value) (i22 : Value) (i23 : Value) (i24 : Value) (i25 : Value) (i26 : Value) (i27 : Value) (i28 : Value) (nx : List Value → St H → Option (List (Value × St H))) (K : Ex → List Value → St H → Option (List (Value × St H))) (i : Nat) (x : Value × Value) (s : St H) : (kBlock 2 (kSeq Try.prog false C n 83 none (cdp Try.f83 [1, 1, 0, 1, 0, 0, 1, 0, 0, 1, 0, 1, 1]) (kBlock 1 (kSeq Try.prog false C n 83 none (cdp Try.f83 [1, 1, 0, 1, 0, 0, 1, 1]) (kIter (scratch (cdp Try.f83 [1, 1, 0, 1, 0, 0])) nx K))))) (.exit i) (f83_l1_m i0 i2 i4 i6 i7 i8 i10 i11 i12 i13 i16 i17 i18 i19 i20 i21 i22 i23 i24 i25 i26 i27 i28 x) s =
 (bif Nat.beq i 2 then
 ((dOps (H := H) Try.prog).slc s 45 i0 (some x.1) none none).bind fun v57 =>
 ((dOps (H := H) Try.prog).clear s 45 v57).bind fun s58 =>
 ((dOps (H := H) Try.prog).slc s58 45 i0 none (some x.1) none).bind fun v59 =>
 K .ret (f83_l0_m i0 i6 i7 i8 (v59, x.1, i4, x.2)) s58 else (bif Nat.beq i 1 then
 ((dOps (H := H) Try.prog).bop .add 3 x.1 (Go.Value.int Go.IntKind.i64 1)).bind fun v60 =>
 nx (f83_l0_m i0 i6 i7 i8 (i2, v60, i4, x.2)) s else K (.exit i) (f83_l0_m i0 i6 i7 i8 (i2, x.1, i4, x.2)) s)) := by kernel_rfl
theorem f83_l0_b (C : OracleJ H) (n : Nat) (i0 : Value) (i6 : Value) (i7 : Value) (i8 : Value) (x : Value × Value × Value × Value) (s : St H) (nx : List Value → St H → Option (List (Value × St H))) (K : Ex → List Value → St H → Option (List (Value × St H))) :
 exec Try.prog false C n 83 none (cdp Try.f83 [1, 1, 0, 1, 0, 0]) (f83_l0_m i0 i6 i7 i8 x) s (kIter (scratch (cdp Try.f83 [1, 1, 0, 1, 0, 0])) nx K) = f83_l0 (dOps (H := H) Try.prog) C n i0 (fun x s => nx (f83_l0_m i0 i6 i7 i8 x) s) (fun i x s => K (.exit i) (f83_l0_m i0 i6 i7 i8 x) s) (fun x s => K .ret (f83_l0_m i0 i6 i7 i8 x) s) x s := by
  have h1 : exec Try.prog false C n 83 none (cdp Try.f83 [1, 1, 0, 1, 0, 0]) (f83_l0_m i0 i6 i7 i8 x) s (kIter (scratch (cdp Try.f83 [1, 1, 0, 1, 0, 0])) nx K) =
 ((dOps (H := H) Try.prog).len s 45 i0).bind fun v42 =>
 ((dOps (H := H) Try.prog).bop .lss 3 x.2.1 v42).bind fun v43 =>
 ((dOps (H := H) Try.prog).boolO v43).bind fun b44 => cond b44 (
 ((dOps (H := H) Try.prog).indexAddr 45 i0 x.2.1).bind fun v45 =>
 ((dOps (H := H) Try.prog).load s 9 v45).bind fun v46 =>
 ((dOps (H := H) Try.prog).bop .sub 3 x.2.1 (Go.Value.int Go.IntKind.i64 1)).bind fun v47 =>
 ((dOps (H := H) Try.prog).indexAddr 45 i0 v47).bind fun v48 =>
 ((dOps (H := H) Try.prog).load s 9 v48).bind fun v49 =>
 ((dOps (H := H) Try.prog).bop .eql 9 v46 v49).bind fun v50 =>
 ((dOps (H := H) Try.prog).boolO v50).bind fun b51 => cond b51 (
 ((dOps (H := H) Try.prog).slc s 45 i0 (some x.2.1) none none).bind fun v52 =>
 iter (fun t s k => exec Try.prog false C n 83 none (cdp Try.f83 [1, 1, 0, 1, 0, 0, 1, 0, 0, 1, 0, 1, 0, 1, 0, 0]) t s k) (scratch (cdp Try.f83 [1, 1, 0, 1, 0, 0, 1, 0, 0, 1, 0, 1, 0, 1, 0, 0])) n (f83_l1_m i0 x.1 v52 i6 i7 i8 x.2.1 i0 v42 v43 i0 x.2.1 v45 v46 i0 x.2.1 v47 v48 v49 v50 i0 x.2.1 v52 (x.2.1, (Go.Value.int Go.IntKind.i64 1))) s (kBlock 2 (kSeq Try.prog false C n 83 none (cdp Try.f83 [1, 1, 0, 1, 0, 0, 1, 0, 0, 1, 0, 1, 1]) (kBlock 1 (kSeq Try.prog false C n 83 none (cdp Try.f83 [1, 1, 0, 1, 0, 0, 1, 1]) (kIter (scratch (cdp Try.f83 [1, 1, 0, 1, 0, 0])) nx K)))))) (
 ((dOps (H := H) Try.prog).bop .add 3 x.2.1 (Go.Value.int Go.IntKind.i64 1)).bind fun v61 =>
 nx (f83_l0_m i0 i6 i7 i8 (x.1, v61, x.2.2.1, x.2.2.2)) s)) (
 K (.exit 0) (f83_l0_m i0 i6 i7 i8 (x.1, x.2.1, x.2.2.1, x.2.2.2)) s) := by kernel_rfl
  rw [h1]
  simp only [f83_l1_e, f83_l1_k]
  show _ = f83_l0 (dOps (H := H) Try.prog) C n i0 (fun x s => nx (f83_l0_m i0 i6 i7 i8 x) s) (fun i x s => K (.exit i) (f83_l0_m i0 i6 i7 i8 x) s) (fun x s => K .ret (f83_l0_m i0 i6 i7 i8 x) s) x s
  kernel_rfl
theorem f83_l0_e (C : OracleJ H) (n : Nat) (i0 : Value) (i6 : Value) (i7 : Value) (i8 : Value) (m : Nat) (x : Value × Value × Value × Value) (s : St H) (K : Ex → List Value → St H → Option (List (Value × St H))) :
 iter (fun t s k => exec Try.prog false C n 83 none (cdp Try.f83 [1, 1, 0, 1, 0, 0]) t s k) (scratch (cdp Try.f83 [1, 1, 0, 1, 0, 0])) m (f83_l0_m i0 i6 i7 i8 x) s K = iterS (f83_l0 (dOps (H := H) Try.prog) C n i0) (fun i x s => K (.exit i) (f83_l0_m i0 i6 i7 i8 x) s) (fun x s => K .ret (f83_l0_m i0 i6 i7 i8 x) s) m x s :=
   iter_eq (f83_l0_m i0 i6 i7 i8) (f83_l0 (dOps (H := H) Try.prog) C n i0) (fun x s nx K => f83_l0_b C n i0 i6 i7 i8 x s nx K) K m x s
noncomputable def f83 (O : Ops H) (C : OracleJ H) (n : Nat) (a0 : Value) (s : St H) : Option (List (Value × St H)) :=
 (O.len s 45 a0).bind fun v1 =>
 (O.bop .lss 3 v1 (Go.Value.int Go.IntKind.i64 2)).bind fun v2 =>
 (O.boolO v2).bind fun b3 => cond b3 (
 some [(a0, s)]) (
 iterS (f83_l0 O C n a0 )
 (fun i62 x63 s64 => (bif Nat.beq i62 0 then
 some [(a0, s64)] else none))
 (fun x65 s66 => some [(x65.1, s66)]) n ((fzV 2 #[]), (Go.Value.int Go.IntKind.i64 1), undefV, undefV) s)
theorem f83_l0_k (C : OracleJ H) (n : Nat) (i0 : Value) (i6 : Value) (i7 : Value) (i8 : Value) (i : Nat) (x : Value × Value × Value × Value) (s : St H) : (kBlock 0 (kSeq Try.prog false C n 83 none (cdp Try.f83 [1, 1, 1]) (kFun Try.prog Try.f83))) (.exit i) (f83_l0_m i0 i6 i7 i8 x) s =
 (bif Nat.beq i 0 then
 some [(i0, s)] else none) := by kernel_rfl
theorem f83_r (C : OracleJ H) (n : Nat) (a0 : Value) (s : St H) : bodyD Try.prog false C n 83 Try.f83 [a0] s = f83 (dOps (H := H) Try.prog) C n a0 s := by
  have h1 : bodyD Try.prog false C n 83 Try.f83 [a0] s =
 ((dOps (H := H) Try.prog).len s 45 a0).bind fun v67 =>
 ((dOps (H := H) Try.prog).bop .lss 3 v67 (Go.Value.int Go.IntKind.i64 2)).bind fun v68 =>
 ((dOps (H := H) Try.prog).boolO v68).bind fun b69 => cond b69 (
 some [(a0, s)]) (
 iter (fun t s k => exec Try.prog false C n 83 none (cdp Try.f83 [1, 1, 0, 1, 0, 0]) t s k) (scratch (cdp Try.f83 [1, 1, 0, 1, 0, 0])) n (f83_l0_m a0 a0 v67 v68 ((fzV 2 #[]), (Go.Value.int Go.IntKind.i64 1), undefV, undefV)) s (kBlock 0 (kSeq Try.prog false C n 83 none (cdp Try.f83 [1, 1, 1]) (kFun Try.prog Try.f83)))) := by kernel_rfl
  rw [h1]
  simp only [f83_l0_e, f83_l0_k]
  show _ = f83 (dOps (H := H) Try.prog) C n a0 s
  kernel_rfl
/-! slices.ContainsFunc[[]string,string] -/
noncomputable def f84 (O : Ops H) (C : OracleJ H) (n : Nat) (a0 : Value) (a1 : Value) (s : St H) : Option (List (Value × St H)) :=
 (C (.fn 133) [a0, a1] s).bind fun L1 => manyK L1 fun v2 s3 =>
 (O.bop .geq 3 v2 (Go.Value.int Go.IntKind.i64 0)).bind fun v4 =>
 some [(v4, s3)]
theorem f84_r (C : OracleJ H) (n : Nat) (a0 : Value) (a1 : Value) (s : St H) : bodyD Try.prog false C n 84 Try.f84 [a0, a1] s = f84 (dOps (H := H) Try.prog) C n a0 a1 s := by kernel_rfl
/-! tidepole/sym.Make$1 -/
noncomputable def f85 (O : Ops H) (C : OracleJ H) (n : Nat) (a0 : Value) (s : St H) : Option (List (Value × St H)) :=
 (O.len s 9 a0).bind fun v1 =>
 (O.bop .gtr 3 v1 (Go.Value.int Go.IntKind.i64 256)).bind fun v2 =>
 some [(v2, s)]
theorem f85_r (C : OracleJ H) (n : Nat) (a0 : Value) (s : St H) : bodyD Try.prog false C n 85 Try.f85 [a0] s = f85 (dOps (H := H) Try.prog) C n a0 s := by kernel_rfl
/-! slices.BinarySearch[[]string,string] -/
def f86_l0_m (i0 : Value) (i1 : Value) (i6 : Value) (i10 : Value) (i11 : Value) (i12 : Value) (x : Value × Value × Value) : List Value := [i0, i1, undefV, undefV, (Go.Value.int Go.IntKind.i64 0), (.bool false), i6, x.1, x.2.1, x.2.2, i10, i11, i12, dc, dc, dc, dc, dc, dc, dc, dc, dc, dc, dc, dc, dc, dc, dc, dc, dc, dc, undefV, undefV, undefV, undefV, undefV, undefV, undefV, undefV, undefV, undefV, undefV, undefV, undefV, undefV, undefV, undefV, undefV, undefV, undefV, undefV, undefV, undefV, undefV]
noncomputable def f86_l0 (O : Ops H) (C : OracleJ H) (n : Nat) (i0 : Value) (i1 : Value) (nx : (Value × Value × Value) → St H → Option (List (Value × St H))) (kx : Nat → (Value × Value × Value) → St H → Option (List (Value × St H))) (kr : (Value × Value × Value) → St H → Option (List (Value × St H))) (x : Value × Value × Value) (s : St H) : Option (List (Value × St H)) :=
 (O.bop .lss 3 x.1 x.2.1).bind fun v2 =>
 (O.boolO v2).bind fun b3 => cond b3 (
 (O.bop .add 3 x.1 x.2.1).bind fun v4 =>
 (O.conv false s 3 201 v4).bind fun p5 =>
 (O.bop .shr 201 p5.1 (Go.Value.int Go.IntKind.u64 1)).bind fun v6 =>
 (O.conv false p5.2 201 3 v6).bind fun p7 =>
 (O.indexAddr 45 i0 p7.1).bind fun v8 =>
 (O.load p7.2 9 v8).bind fun v9 =>
 (C (.fn 134) [v9, i1] p7.2).bind fun L10 => manyK L10 fun v11 s12 =>
 jn (fun (j345_7 : Value) (j345_8 : Value) =>
 nx (j345_7, j345_8, p7.1) s12) fun k345 =>
 (O.boolO v11).bind fun b13 => cond b13 (
 (O.bop .add 3 p7.1 (Go.Value.int Go.IntKind.i64 1)).bind fun v14 =>
 k345 v14 x.2.1) (
 k345 x.1 p7.1)) (
 kx 0 (x.1, x.2.1, x.2.2) s)
theorem f86_l0_b (C : OracleJ H) (n : Nat) (i0 : Value) (i1 : Value) (i6 : Value) (i10 : Value) (i11 : Value) (i12 : Value) (x : Value × Value × Value) (s : St H) (nx : List Value → St H → Option (List (Value × St H))) (K : Ex → List Value → St H → Option (List (Value × St H))) :
 exec Try.prog false C n 86 none (cdp Try.f86 [1, 1, 1, 0, 0, 0]) (f86_l0_m i0 i1 i6 i10 i11 i12 x) s (kIter (scratch (cdp Try.f86 [1, 1, 1, 0, 0, 0])) nx K) = f86_l0 (dOps (H := H) Try.prog) C n i0 i1 (fun x s => nx (f86_l0_m i0 i1 i6 i10 i11 i12 x) s) (fun i x s => K (.exit i) (f86_l0_m i0 i1 i6 i10 i11 i12 x) s) (fun x s => K .ret (f86_l0_m i0 i1 i6 i10 i11 i12 x) s) x s := by kernel_rfl
theorem f86_l0_e (C : OracleJ H) (n : Nat) (i0 : Value) (i1 : Value) (i6 : Value) (i10 : Value) (i11 : Value) (i12 : Value) (m : Nat) (x : Value × Value × Value) (s : St H) (K : Ex → List Value → St H → Option (List (Value × St H))) :
 iter (fun t s k => exec Try.prog false C n 86 none (cdp Try.f86 [1, 1, 1, 0, 0, 0]) t s k) (scratch (cdp Try.f86 [1, 1, 1, 0, 0, 0])) m (f86_l0_m i0 i1 i6 i10 i11 i12 x) s K = iterS (f86_l0 (dOps (H := H) Try.prog) C n i0 i1) (fun i x s => K (.exit i) (f86_l0_m i0 i1 i6 i10 i11 i12 x) s) (fun x s => K .ret (f86_l0_m i0 i1 i6 i10 i11 i12 x) s) m x s :=
   iter_eq (f86_l0_m i0 i1 i6 i10 i11 i12) (f86_l0 (dOps (H := H) Try.prog) C n i0 i1) (fun x s nx K => f86_l0_b C n i0 i1 i6 i10 i11 i12 x s nx K) K m x s
noncomputable def f86 (O : Ops H) (C : OracleJ H) (n : Nat) (a0 : Value) (a1 : Value) (s : St H) : Option (List (Value × St H)) :=
 (O.len s 45 a0).bind fun v1 =>
 iterS (f86_l0 O C n a0 a1 )
 (fun i15 x16 s17 => (bif Nat.beq i15 0 then
 (O.bop .lss 3 x16.1 v1).bind fun v20 =>
 gd v20 (
 (O.indexAddr 45 a0 x16.1).bind fun v21 =>
 (O.load s17 9 v21).bind fun v22 =>
 (O.bop .eql 9 v22 a1).bind fun v23 =>
 gd v23 (
 some [(.tuple #[x16.1, (.bool true)], s17)]) (
 (O.indexAddr 45 a0 x16.1).bind fun v24 =>
 (O.load s17 9 v24).bind fun v25 =>
 (C (.fn 135) [v25] s17).bind fun L26 => manyK L26 fun v27 s28 =>
 gd v27 (
 (C (.fn 135) [a1] s28).bind fun L29 => manyK L29 fun v30 s31 =>
 some [(.tuple #[x16.1, v30], s31)]) (
 some [(.tuple #[x16.1, (.bool false)], s28)]) (
 none)) (
 none)) (
 some [(.tuple #[x16.1, (.bool false)], s17)]) (
 none) else none))
 (fun x18 s19 => some [(.tuple #[(Go.Value.int Go.IntKind.i64 0), (.bool false)], s19)]) n ((Go.Value.int Go.IntKind.i64 0), v1, undefV) s
theorem f86_l0_k (C : OracleJ H) (n : Nat) (i0 : Value) (i1 : Value) (i6 : Value) (i10 : Value) (i11 : Value) (i12 : Value) (i : Nat) (x : Value × Value × Value) (s : St H) : (kBlock 0 (kSeq Try.prog false C n 86 none (cdp Try.f86 [1, 1, 1, 1]) (kFun Try.prog Try.f86))) (.exit i) (f86_l0_m i0 i1 i6 i10 i11 i12 x) s =
 (bif Nat.beq i 0 then
 ((dOps (H := H) Try.prog).bop .lss 3 x.1 i6).bind fun v45 =>
 gd v45 (
 ((dOps (H := H) Try.prog).indexAddr 45 i0 x.1).bind fun v46 =>
 ((dOps (H := H) Try.prog).load s 9 v46).bind fun v47 =>
 ((dOps (H := H) Try.prog).bop .eql 9 v47 i1).bind fun v48 =>
 gd v48 (
 some [(.tuple #[x.1, (.bool true)], s)]) (
 ((dOps (H := H) Try.prog).indexAddr 45 i0 x.1).bind fun v49 =>
 ((dOps (H := H) Try.prog).load s 9 v49).bind fun v50 =>
 (C (.fn 135) [v50] s).bind fun L51 => manyK L51 fun v52 s53 =>
 gd v52 (
 (C (.fn 135) [i1] s53).bind fun L54 => manyK L54 fun v55 s56 =>
 some [(.tuple #[x.1, v55], s56)]) (
 some [(.tuple #[x.1, (.bool false)], s53)]) (
 none)) (
 none)) (
 some [(.tuple #[x.1, (.bool false)], s)]) (
 none) else none) := by kernel_rfl
theorem f86_r (C : OracleJ H) (n : Nat) (a0 : Value) (a1 : Value) (s : St H) : bodyD Try.prog false C n 86 Try.f86 [a0, a1] s = f86 (dOps (H := H) Try.prog) C n a0 a1 s := by
  have h1 : bodyD Try.prog false C n 86 Try.f86 [a0, a1] s =
 ((dOps (H := H) Try.prog).len s 45 a0).bind fun v32 =>
 iter (fun t s k => exec Try.prog false C n 86 none (cdp Try.f86 [1, 1, 1, 0, 0, 0]) t s k) (scratch (cdp Try.f86 [1, 1, 1, 0, 0, 0])) n (f86_l0_m a0 a1 v32 a0 v32 v32 ((Go.Value.int Go.IntKind.i64 0), v32, undefV)) s (kBlock 0 (kSeq Try.prog false C n 86 none (cdp Try.f86 [1, 1, 1, 1]) (kFun Try.prog Try.f86))) := by kernel_rfl
  rw [h1]
  simp only [f86_l0_e, f86_l0_k]
  show _ = f86 (dOps (H := H) Try.prog) C n a0 a1 s
  kernel_rfl
/-! (tidepole/sym.list).All -/
noncomputable def f87 (O : Ops H) (C : OracleJ H) (n : Nat) (a0 : Value) (s : St H) : Option (List (Value × St H)) :=
 (O.box s a0).bind fun p1 =>
 some [((.func (.func 136) #[] #[p1.1]), p1.2)]
theorem f87_r (C : OracleJ H) (n : Nat) (a0 : Value) (s : St H) : bodyD Try.prog false C n 87 Try.f87 [a0] s = f87 (dOps (H := H) Try.prog) C n a0 s := by kernel_rfl
/-! tidepole/sym.common -/
def f88_l0_m (i0 : Value) (i1 : Value) (i5 : Value) (i7 : Value) (i8 : Value) (i9 : Value) (i10 : Value) (i11 : Value) (i12 : Value) (x : Value × Value × Value) : List Value := [i0, i1, undefV, undefV, x.1, i5, x.2.1, i7, i8, i9, i10, i11, i12, x.2.2, dc, dc, dc, dc, dc, dc, dc, dc, dc, dc, dc, undefV]
noncomputable def f88_l0 (O : Ops H) (C : OracleJ H) (n : Nat) (i0 : Value) (i1 : Value) (i12 : Value) (nx : (Value × Value × Value) → St H → Option (List (Value × St H))) (kx : Nat → (Value × Value × Value) → St H → Option (List (Value × St H))) (kr : (Value × Value × Value) → St H → Option (List (Value × St H))) (x : Value × Value × Value) (s : St H) : Option (List (Value × St H)) :=
 (O.bop .lss 3 x.2.2 i12).bind fun v4 =>
 (O.boolO v4).bind fun b5 => cond b5 (
 (O.index 9 i0 x.2.2).bind fun v6 =>
 (O.index 9 i1 x.2.2).bind fun v7 =>
 (O.bop .neq 5 v6 v7).bind fun v8 =>
 (O.boolO v8).bind fun b9 => cond b9 (
 kr (x.2.2, x.2.2, x.2.2) s) (
 (O.bop .add 3 x.2.2 (Go.Value.int Go.IntKind.i64 1)).bind fun v10 =>
 nx (x.1, x.2.2, v10) s)) (
 kx 0 (x.1, x.2.1, x.2.2) s)
theorem f88_l0_b (C : OracleJ H) (n : Nat) (i0 : Value) (i1 : Value) (i5 : Value) (i7 : Value) (i8 : Value) (i9 : Value) (i10 : Value) (i11 : Value) (i12 : Value) (x : Value × Value × Value) (s : St H) (nx : List Value → St H → Option (List (Value × St H))) (K : Ex → List Value → St H → Option (List (Value × St H))) :
 exec Try.prog false C n 88 none (cdp Try.f88 [1, 1, 0, 1, 0, 0]) (f88_l0_m i0 i1 i5 i7 i8 i9 i10 i11 i12 x) s (kIter (scratch (cdp Try.f88 [1, 1, 0, 1, 0, 0])) nx K) = f88_l0 (dOps (H := H) Try.prog) C n i0 i1 i12 (fun x s => nx (f88_l0_m i0 i1 i5 i7 i8 i9 i10 i11 i12 x) s) (fun i x s => K (.exit i) (f88_l0_m i0 i1 i5 i7 i8 i9 i10 i11 i12 x) s) (fun x s => K .ret (f88_l0_m i0 i1 i5 i7 i8 i9 i10 i11 i12 x) s) x s := by kernel_rfl
theorem f88_l0_e (C : OracleJ H) (n : Nat) (i0 : Value) (i1 : Value) (i5 : Value) (i7 : Value) (i8 : Value) (i9 : Value) (i10 : Value) (i11 : Value) (i12 : Value) (m : Nat) (x : Value × Value × Value) (s : St H) (K : Ex → List Value → St H → Option (List (Value × St H))) :
 iter (fun t s k => exec Try.prog false C n 88 none (cdp Try.f88 [1, 1, 0, 1, 0, 0]) t s k) (scratch (cdp Try.f88 [1, 1, 0, 1, 0, 0])) m (f88_l0_m i0 i1 i5 i7 i8 i9 i10 i11 i12 x) s K = iterS (f88_l0 (dOps (H := H) Try.prog) C n i0 i1 i12) (fun i x s => K (.exit i) (f88_l0_m i0 i1 i5 i7 i8 i9 i10 i11 i12 x) s) (fun x s => K .ret (f88_l0_m i0 i1 i5 i7 i8 i9 i10 i11 i12 x) s) m x s :=
   iter_eq (f88_l0_m i0 i1 i5 i7 i8 i9 i10 i11 i12) (f88_l0 (dOps (H := H) Try.prog) C n i0 i1 i12) (fun x s nx K => f88_l0_b C n i0 i1 i5 i7 i8 i9 i10 i11 i12 x s nx K) K m x s
noncomputable def f88 (O : Ops H) (C : OracleJ H) (n : Nat) (a0 : Value) (a1 : Value) (s : St H) : Option (List (Value × St H)) :=
 (O.len s 9 a0).bind fun v1 =>
 (O.len s 9 a1).bind fun v2 =>
 (O.minO v1 [v2]).bind fun v3 =>
 iterS (f88_l0 O C n a0 a1 v3 )
 (fun i11 x12 s13 => (bif Nat.beq i11 0 then
 some [(v3, s13)] else none))
 (fun x14 s15 => some [(x14.1, s15)]) n ((Go.Value.int Go.IntKind.i64 0), undefV, (Go.Value.int Go.IntKind.i64 0)) s
theorem f88_l0_k (C : OracleJ H) (n : Nat) (i0 : Value) (i1 : Value) (i5 : Value) (i7 : Value) (i8 : Value) (i9 : Value) (i10 : Value) (i11 : Value) (i12 : Value) (i : Nat) (x : Value × Value × Value) (s : St H) : (kBlock 0 (kSeq Try.prog false C n 88 none (cdp Try.f88 [1, 1, 1]) (kFun Try.prog Try.f88))) (.exit i) (f88_l0_m i0 i1 i5 i7 i8 i9 i10 i11 i12 x) s =
 (bif Nat.beq i 0 then
 some [(i5, s)] else none) := by kernel_rfl
theorem f88_r (C : OracleJ H) (n : Nat) (a0 : Value) (a1 : Value) (s : St H) : bodyD Try.prog false C n 88 Try.f88 [a0, a1] s = f88 (dOps (H := H) Try.prog) C n a0 a1 s := by
  have h1 : bodyD Try.prog false C n 88 Try.f88 [a0, a1] s =
 ((dOps (H := H) Try.prog).len s 9 a0).bind fun v16 =>
 ((dOps (H := H) Try.prog).len s 9 a1).bind fun v17 =>
 ((dOps (H := H) Try.prog).minO v16 [v17]).bind fun v18 =>
 iter (fun t s k => exec Try.prog false C n 88 none (cdp Try.f88 [1, 1, 0, 1, 0, 0]) t s k) (scratch (cdp Try.f88 [1, 1, 0, 1, 0, 0])) n (f88_l0_m a0 a1 v18 a0 v16 a1 v17 v18 v18 ((Go.Value.int Go.IntKind.i64 0), undefV, (Go.Value.int Go.IntKind.i64 0))) s (kBlock 0 (kSeq Try.prog false C n 88 none (cdp Try.f88 [1, 1, 1]) (kFun Try.prog Try.f88))) := by kernel_rfl
  rw [h1]
  simp only [f88_l0_e, f88_l0_k]
  show _ = f88 (dOps (H := H) Try.prog) C n a0 a1 s
  kernel_rfl
/-! tidepole/sym.next -/
noncomputable def f89 (O : Ops H) (C : OracleJ H) (n : Nat) (a0 : Value) (a1 : Value) (a2 : Value) (s : St H) : Option (List (Value × St H)) :=
 (C (.fn 74) [a0, a1] s).bind fun L1 => manyK L1 fun v2 s3 =>
 (O.extract v2 0).bind fun v4 =>
 (O.extract v2 1).bind fun v5 =>
 (O.extract v2 2).bind fun v6 =>
 (O.bop .neq 26 v6 (Go.Value.int Go.IntKind.i64 0)).bind fun v7 =>
 (O.boolO v7).bind fun b8 => cond b8 (
 some [(.tuple #[(Go.Value.string { data := #[] }), (Go.Value.int Go.IntKind.i64 0), v6], s3)]) (
 (C (.fn 137) [a0, v5] s3).bind fun L9 => manyK L9 fun v10 s11 =>
 (O.extract v10 0).bind fun v12 =>
 (O.extract v10 1).bind fun v13 =>
 (O.extract v10 2).bind fun v14 =>
 (O.bop .neq 26 v14 (Go.Value.int Go.IntKind.i64 0)).bind fun v15 =>
 (O.boolO v15).bind fun b16 => cond b16 (
 some [(.tuple #[(Go.Value.string { data := #[] }), (Go.Value.int Go.IntKind.i64 0), v14], s11)]) (
 jn (fun (j386_34 : Value) (js386 : St H) =>
 (O.boolO j386_34).bind fun b25 => cond b25 (
 some [(.tuple #[(Go.Value.string { data := #[] }), (Go.Value.int Go.IntKind.i64 0), (Go.Value.int Go.IntKind.i64 150)], js386)]) (
 (O.slc js386 9 a2 none (some v4) none).bind fun v26 =>
 (O.conv false js386 35 9 v12).bind fun p27 =>
 (O.bop .add 9 v26 p27.1).bind fun v28 =>
 (C (.fn 88) [a2, v28] p27.2).bind fun L29 => manyK L29 fun v30 s31 =>
 (O.conv false s31 70 3 v4).bind fun p32 =>
 (O.bop .neq 3 v30 p32.1).bind fun v33 =>
 (O.boolO v33).bind fun b34 => cond b34 (
 some [(.tuple #[(Go.Value.string { data := #[] }), (Go.Value.int Go.IntKind.i64 0), (Go.Value.int Go.IntKind.i64 150)], p32.2)]) (
 some [(.tuple #[v28, v13, v14], p32.2)]))) fun k386 =>
 (O.len s11 9 a2).bind fun v17 =>
 (O.conv false s11 3 70 v17).bind fun p18 =>
 (O.bop .gtr 70 v4 p18.1).bind fun v19 =>
 gd v19 (
 k386 (.bool true) p18.2) (
 (O.conv false p18.2 70 3 v4).bind fun p20 =>
 (O.len p20.2 35 v12).bind fun v21 =>
 (O.bop .add 3 p20.1 v21).bind fun v22 =>
 (O.bop .gtr 3 v22 (Go.Value.int Go.IntKind.i64 256)).bind fun v23 =>
 k386 v23 p20.2) (
 none)))
theorem f89_r (C : OracleJ H) (n : Nat) (a0 : Value) (a1 : Value) (a2 : Value) (s : St H) : bodyD Try.prog false C n 89 Try.f89 [a0, a1, a2] s = f89 (dOps (H := H) Try.prog) C n a0 a1 a2 s := by kernel_rfl
/-! tidepole/vint.put[uint64] -/
def f123_l0_m (i0 : Value) (i1 : Value) (i2 : Value) (i6 : Value) (i9 : Value) (i10 : Value) (i11 : Value) (i12 : Value) (i13 : Value) (i14 : Value) (i15 : Value) (i16 : Value) (i17 : Value) (x : Value × Value) : List Value := [i0, i1, i2, undefV, undefV, undefV, i6, x.1, x.2, i9, i10, i11, i12, i13, i14, i15, i16, i17, dc, dc, dc, dc, dc, dc, dc, dc, dc, dc, undefV, undefV, undefV, undefV, undefV]
noncomputable def f123_l0 (O : Ops H) (C : OracleJ H) (n : Nat) (nx : (Value × Value) → St H → Option (List (Value × St H))) (kx : Nat → (Value × Value) → St H → Option (List (Value × St H))) (kr : (Value × Value) → St H → Option (List (Value × St H))) (x : Value × Value) (s : St H) : Option (List (Value × St H)) :=
 (O.bop .gtr 70 x.2 (Go.Value.int Go.IntKind.u64 127)).bind fun v9 =>
 (O.boolO v9).bind fun b10 => cond b10 (
 (O.conv false s 70 5 x.2).bind fun p11 =>
 (O.bop .or 5 p11.1 (Go.Value.int Go.IntKind.u8 128)).bind fun v12 =>
 (O.buildSlice false p11.2 35 1 [(0, v12)]).bind fun p13 =>
 (O.append false p13.2 35 35 x.1 p13.1).bind fun p14 =>
 (O.bop .shr 70 x.2 (Go.Value.int Go.IntKind.u64 7)).bind fun v15 =>
 nx (p14.1, v15) p14.2) (
 kx 0 (x.1, x.2) s)
theorem f123_l0_b (C : OracleJ H) (n : Nat) (i0 : Value) (i1 : Value) (i2 : Value) (i6 : Value) (i9 : Value) (i10 : Value) (i11 : Value) (i12 : Value) (i13 : Value) (i14 : Value) (i15 : Value) (i16 : Value) (i17 : Value) (x : Value × Value) (s : St H) (nx : List Value → St H → Option (List (Value × St H))) (K : Ex → List Value → St H → Option (List (Value × St H))) :
 exec Try.prog false C n 123 none (cdp Try.f123 [1, 1, 1, 0, 0, 0]) (f123_l0_m i0 i1 i2 i6 i9 i10 i11 i12 i13 i14 i15 i16 i17 x) s (kIter (scratch (cdp Try.f123 [1, 1, 1, 0, 0, 0])) nx K) = f123_l0 (dOps (H := H) Try.prog) C n (fun x s => nx (f123_l0_m i0 i1 i2 i6 i9 i10 i11 i12 i13 i14 i15 i16 i17 x) s) (fun i x s => K (.exit i) (f123_l0_m i0 i1 i2 i6 i9 i10 i11 i12 i13 i14 i15 i16 i17 x) s) (fun x s => K .ret (f123_l0_m i0 i1 i2 i6 i9 i10 i11 i12 i13 i14 i15 i16 i17 x) s) x s := by kernel_rfl
theorem f123_l0_e (C : OracleJ H) (n : Nat) (i0 : Value) (i1 : Value) (i2 : Value) (i6 : Value) (i9 : Value) (i10 : Value) (i11 : Value) (i12 : Value) (i13 : Value) (i14 : Value) (i15 : Value) (i16 : Value) (i17 : Value) (m : Nat) (x : Value × Value) (s : St H) (K : Ex → List Value → St H → Option (List (Value × St H))) :
 iter (fun t s k => exec Try.prog false C n 123 none (cdp Try.f123 [1, 1, 1, 0, 0, 0]) t s k) (scratch (cdp Try.f123 [1, 1, 1, 0, 0, 0])) m (f123_l0_m i0 i1 i2 i6 i9 i10 i11 i12 i13 i14 i15 i16 i17 x) s K = iterS (f123_l0 (dOps (H := H) Try.prog) C n) (fun i x s => K (.exit i) (f123_l0_m i0 i1 i2 i6 i9 i10 i11 i12 i13 i14 i15 i16 i17 x) s) (fun x s => K .ret (f123_l0_m i0 i1 i2 i6 i9 i10 i11 i12 i13 i14 i15 i16 i17 x) s) m x s :=
   iter_eq (f123_l0_m i0 i1 i2 i6 i9 i10 i11 i12 i13 i14 i15 i16 i17) (f123_l0 (dOps (H := H) Try.prog) C n) (fun x s nx K => f123_l0_b C n i0 i1 i2 i6 i9 i10 i11 i12 i13 i14 i15 i16 i17 x s nx K) K m x s
noncomputable def f123 (O : Ops H) (C : OracleJ H) (n : Nat) (a0 : Value) (a1 : Value) (a2 : Value) (s : St H) : Option (List (Value × St H)) :=
 (O.len s 35 a0).bind fun v1 =>
 (O.bop .add 3 v1 (Go.Value.int Go.IntKind.i64 10)).bind fun v2 =>
 (O.makeSlice false s 35 (Go.Value.int Go.IntKind.i64 0) v2).bind fun p3 =>
 (O.append false p3.2 35 35 p3.1 a0).bind fun p4 =>
 (O.tgt a2 [a1]).bind fun g5 => (C g5.1 g5.2 p4.2).bind fun L6 => manyK L6 fun v7 s8 =>
 iterS (f123_l0 O C n )
 (fun i16 x17 s18 => (bif Nat.beq i16 0 then
 (O.conv false s18 70 5 x17.2).bind fun p21 =>
 (O.buildSlice false p21.2 35 1 [(0, p21.1)]).bind fun p22 =>
 (O.append false p22.2 35 35 x17.1 p22.1).bind fun p23 =>
 some [(p23.1, p23.2)] else none))
 (fun x19 s20 => some [((fzV 2 #[]), s20)]) n (p4.1, v7) s8
theorem f123_l0_k (C : OracleJ H) (n : Nat) (i0 : Value) (i1 : Value) (i2 : Value) (i6 : Value) (i9 : Value) (i10 : Value) (i11 : Value) (i12 : Value) (i13 : Value) (i14 : Value) (i15 : Value) (i16 : Value) (i17 : Value) (i : Nat) (x : Value × Value) (s : St H) : (kBlock 0 (kSeq Try.prog false C n 123 none (cdp Try.f123 [1, 1, 1, 1]) (kFun Try.prog Try.f123))) (.exit i) (f123_l0_m i0 i1 i2 i6 i9 i10 i11 i12 i13 i14 i15 i16 i17 x) s =
 (bif Nat.beq i 0 then
 ((dOps (H := H) Try.prog).conv false s 70 5 x.2).bind fun p35 =>
 ((dOps (H := H) Try.prog).buildSlice false p35.2 35 1 [(0, p35.1)]).bind fun p36 =>
 ((dOps (H := H) Try.prog).append false p36.2 35 35 x.1 p36.1).bind fun p37 =>
 some [(p37.1, p37.2)] else none) := by kernel_rfl
theorem f123_r (C : OracleJ H) (n : Nat) (a0 : Value) (a1 : Value) (a2 : Value) (s : St H) : bodyD Try.prog false C n 123 Try.f123 [a0, a1, a2] s = f123 (dOps (H := H) Try.prog) C n a0 a1 a2 s := by
  have h1 : bodyD Try.prog false C n 123 Try.f123 [a0, a1, a2] s =
 ((dOps (H := H) Try.prog).len s 35 a0).bind fun v24 =>
 ((dOps (H := H) Try.prog).bop .add 3 v24 (Go.Value.int Go.IntKind.i64 10)).bind fun v25 =>
 ((dOps (H := H) Try.prog).makeSlice false s 35 (Go.Value.int Go.IntKind.i64 0) v25).bind fun p26 =>
 ((dOps (H := H) Try.prog).append false p26.2 35 35 p26.1 a0).bind fun p27 =>
 ((dOps (H := H) Try.prog).tgt a2 [a1]).bind fun g28 => (C g28.1 g28.2 p27.2).bind fun L29 => manyK L29 fun v30 s31 =>
 iter (fun t s k => exec Try.prog false C n 123 none (cdp Try.f123 [1, 1, 1, 0, 0, 0]) t s k) (scratch (cdp Try.f123 [1, 1, 1, 0, 0, 0])) n (f123_l0_m a0 a1 a2 (fzV 2 #[]) a0 v24 v25 p26.1 a0 p27.1 a2 a1 v30 (p27.1, v30)) s31 (kBlock 0 (kSeq Try.prog false C n 123 none (cdp Try.f123 [1, 1, 1, 1]) (kFun Try.prog Try.f123))) := by kernel_rfl
  rw [h1]
  simp only [f123_l0_e, f123_l0_k]
  show _ = f123 (dOps (H := H) Try.prog) C n a0 a1 a2 s
  kernel_rfl
/-! tidepole/vint.plain -/
noncomputable def f124 (O : Ops H) (C : OracleJ H) (n : Nat) (a0 : Value) (s : St H) : Option (List (Value × St H)) :=
 some [(a0, s)]
theorem f124_r (C : OracleJ H) (n : Nat) (a0 : Value) (s : St H) : bodyD Try.prog false C n 124 Try.f124 [a0] s = f124 (dOps (H := H) Try.prog) C n a0 s := by kernel_rfl
/-! slices.IndexFunc[[]string,string] -/
def f133_l0_m (i0 : Value) (i1 : Value) (i6 : Value) (i7 : Value) (x : Value × Value × Value) : List Value := [i0, i1, undefV, undefV, x.1, x.2.1, i6, i7, x.2.2, dc, dc, dc, dc, dc, dc, dc, dc, dc, dc]
noncomputable def f133_l0 (O : Ops H) (C : OracleJ H) (n : Nat) (i0 : Value) (i1 : Value) (i7 : Value) (nx : (Value × Value × Value) → St H → Option (List (Value × St H))) (kx : Nat → (Value × Value × Value) → St H → Option (List (Value × St H))) (kr : (Value × Value × Value) → St H → Option (List (Value × St H))) (x : Value × Value × Value) (s : St H) : Option (List (Value × St H)) :=
 (O.bop .lss 3 x.2.2 i7).bind fun v2 =>
 (O.boolO v2).bind fun b3 => cond b3 (
 (O.indexAddr 45 i0 x.2.2).bind fun v4 =>
 (O.load s 9 v4).bind fun v5 =>
 (O.tgt i1 [v5]).bind fun g6 => (C g6.1 g6.2 s).bind fun L7 => manyK L7 fun v8 s9 =>
 (O.boolO v8).bind fun b10 => cond b10 (
 kr (x.2.2, x.2.2, x.2.2) s9) (
 (O.bop .add 3 x.2.2 (Go.Value.int Go.IntKind.i64 1)).bind fun v11 =>
 nx (x.1, x.2.2, v11) s9)) (
 kx 0 (x.1, x.2.1, x.2.2) s)
theorem f133_l0_b (C : OracleJ H) (n : Nat) (i0 : Value) (i1 : Value) (i6 : Value) (i7 : Value) (x : Value × Value × Value) (s : St H) (nx : List Value → St H → Option (List (Value × St H))) (K : Ex → List Value → St H → Option (List (Value × St H))) :
 exec Try.prog false C n 133 none (cdp Try.f133 [1, 0, 1, 0, 0]) (f133_l0_m i0 i1 i6 i7 x) s (kIter (scratch (cdp Try.f133 [1, 0, 1, 0, 0])) nx K) = f133_l0 (dOps (H := H) Try.prog) C n i0 i1 i7 (fun x s => nx (f133_l0_m i0 i1 i6 i7 x) s) (fun i x s => K (.exit i) (f133_l0_m i0 i1 i6 i7 x) s) (fun x s => K .ret (f133_l0_m i0 i1 i6 i7 x) s) x s := by kernel_rfl
theorem f133_l0_e (C : OracleJ H) (n : Nat) (i0 : Value) (i1 : Value) (i6 : Value) (i7 : Value) (m : Nat) (x : Value × Value × Value) (s : St H) (K : Ex → List Value → St H → Option (List (Value × St H))) :
 iter (fun t s k => exec Try.prog false C n 133 none (cdp Try.f133 [1, 0, 1, 0, 0]) t s k) (scratch (cdp Try.f133 [1, 0, 1, 0, 0])) m (f133_l0_m i0 i1 i6 i7 x) s K = iterS (f133_l0 (dOps (H := H) Try.prog) C n i0 i1 i7) (fun i x s => K (.exit i) (f133_l0_m i0 i1 i6 i7 x) s) (fun x s => K .ret (f133_l0_m i0 i1 i6 i7 x) s) m x s :=
   iter_eq (f133_l0_m i0 i1 i6 i7) (f133_l0 (dOps (H := H) Try.prog) C n i0 i1 i7) (fun x s nx K => f133_l0_b C n i0 i1 i6 i7 x s nx K) K m x s
noncomputable def f133 (O : Ops H) (C : OracleJ H) (n : Nat) (a0 : Value) (a1 : Value) (s : St H) : Option (List (Value × St H)) :=
 (O.len s 45 a0).bind fun v1 =>
 iterS (f133_l0 O C n a0 a1 v1 )
 (fun i12 x13 s14 => (bif Nat.beq i12 0 then
 some [((Go.Value.int Go.IntKind.i64 (-1)), s14)] else none))
 (fun x15 s16 => some [(x15.1, s16)]) n ((Go.Value.int Go.IntKind.i64 0), undefV, (Go.Value.int Go.IntKind.i64 0)) s
theorem f133_l0_k (C : OracleJ H) (n : Nat) (i0 : Value) (i1 : Value) (i6 : Value) (i7 : Value) (i : Nat) (x : Value × Value × Value) (s : St H) : (kBlock 0 (kSeq Try.prog false C n 133 none (cdp Try.f133 [1, 1]) (kFun Try.prog Try.f133))) (.exit i) (f133_l0_m i0 i1 i6 i7 x) s =
 (bif Nat.beq i 0 then
 some [((Go.Value.int Go.IntKind.i64 (-1)), s)] else none) := by kernel_rfl
theorem f133_r (C : OracleJ H) (n : Nat) (a0 : Value) (a1 : Value) (s : St H) : bodyD Try.prog false C n 133 Try.f133 [a0, a1] s = f133 (dOps (H := H) Try.prog) C n a0 a1 s := by
  have h1 : bodyD Try.prog false C n 133 Try.f133 [a0, a1] s =
 ((dOps (H := H) Try.prog).len s 45 a0).bind fun v17 =>
 iter (fun t s k => exec Try.prog false C n 133 none (cdp Try.f133 [1, 0, 1, 0, 0]) t s k) (scratch (cdp Try.f133 [1, 0, 1, 0, 0])) n (f133_l0_m a0 a1 a0 v17 ((Go.Value.int Go.IntKind.i64 0), undefV, (Go.Value.int Go.IntKind.i64 0))) s (kBlock 0 (kSeq Try.prog false C n 133 none (cdp Try.f133 [1, 1]) (kFun Try.prog Try.f133))) := by kernel_rfl
  rw [h1]
  simp only [f133_l0_e, f133_l0_k]
  show _ = f133 (dOps (H := H) Try.prog) C n a0 a1 s
  kernel_rfl
/-! cmp.Less[string] -/
noncomputable def f134 (O : Ops H) (C : OracleJ H) (n : Nat) (a0 : Value) (a1 : Value) (s : St H) : Option (List (Value × St H)) :=
 (C (.fn 162) [a0] s).bind fun L1 => manyK L1 fun v2 s3 =>
 gd v2 (
 (C (.fn 162) [a1] s3).bind fun L4 => manyK L4 fun v5 s6 =>
 (O.uop .not v5).bind fun v7 =>
 gd v7 (
 some [((.bool true), s6)]) (
 (O.bop .lss 9 a0 a1).bind fun v8 =>
 some [(v8, s6)]) (
 none)) (
 (O.bop .lss 9 a0 a1).bind fun v9 =>
 some [(v9, s3)]) (
 none)
theorem f134_r (C : OracleJ H) (n : Nat) (a0 : Value) (a1 : Value) (s : St H) : bodyD Try.prog false C n 134 Try.f134 [a0, a1] s = f134 (dOps (H := H) Try.prog) C n a0 a1 s := by kernel_rfl
/-! slices.isNaN[string] -/
noncomputable def f135 (O : Ops H) (C : OracleJ H) (n : Nat) (a0 : Value) (s : St H) : Option (List (Value × St H)) :=
 (O.bop .neq 9 a0 a0).bind fun v1 =>
 some [(v1, s)]
theorem f135_r (C : OracleJ H) (n : Nat) (a0 : Value) (s : St H) : bodyD Try.prog false C n 135 Try.f135 [a0] s = f135 (dOps (H := H) Try.prog) C n a0 s := by kernel_rfl
/-! (tidepole/sym.list).All$1 -/
def f136_l0_m (i0 : Value) (i1 : Value) (i5 : Value) (i6 : Value) (i7 : Value) (x : Value × Value × Value) : List Value := [i0, i1, undefV, x.1, x.2.1, i5, i6, i7, x.2.2, dc, dc, dc, dc, dc, dc, dc, dc, dc, dc]
noncomputable def f136_l0 (O : Ops H) (C : OracleJ H) (n : Nat) (i0 : Value) (i6 : Value) (i7 : Value) (nx : (Value × Value × Value) → St H → Option (List (Value × St H))) (kx : Nat → (Value × Value × Value) → St H → Option (List (Value × St H))) (kr : (Value × Value × Value) → St H → Option (List (Value × St H))) (x : Value × Value × Value) (s : St H) : Option (List (Value × St H)) :=
 (O.bop .lss 3 x.2.2 i7).bind fun v4 =>
 (O.boolO v4).bind fun b5 => cond b5 (
 (O.indexAddr 45 i6 x.2.2).bind fun v6 =>
 (O.load s 9 v6).bind fun v7 =>
 (O.tgt i0 [x.2.2, v7]).bind fun g8 => (C g8.1 g8.2 s).bind fun L9 => manyK L9 fun v10 s11 =>
 (O.uop .not v10).bind fun v12 =>
 (O.boolO v12).bind fun b13 => cond b13 (
 kr (x.2.2, v7, x.2.2) s11) (
 (O.bop .add 3 x.2.2 (Go.Value.int Go.IntKind.i64 1)).bind fun v14 =>
 nx (x.2.2, v7, v14) s11)) (
 kx 0 (x.1, x.2.1, x.2.2) s)
theorem f136_l0_b (C : OracleJ H) (n : Nat) (i0 : Value) (i1 : Value) (i5 : Value) (i6 : Value) (i7 : Value) (x : Value × Value × Value) (s : St H) (nx : List Value → St H → Option (List (Value × St H))) (K : Ex → List Value → St H → Option (List (Value × St H))) :
 exec Try.prog false C n 136 none (cdp Try.f136 [1, 0, 0]) (f136_l0_m i0 i1 i5 i6 i7 x) s (kIter (scratch (cdp Try.f136 [1, 0, 0])) nx K) = f136_l0 (dOps (H := H) Try.prog) C n i0 i6 i7 (fun x s => nx (f136_l0_m i0 i1 i5 i6 i7 x) s) (fun i x s => K (.exit i) (f136_l0_m i0 i1 i5 i6 i7 x) s) (fun x s => K .ret (f136_l0_m i0 i1 i5 i6 i7 x) s) x s := by kernel_rfl
theorem f136_l0_e (C : OracleJ H) (n : Nat) (i0 : Value) (i1 : Value) (i5 : Value) (i6 : Value) (i7 : Value) (m : Nat) (x : Value × Value × Value) (s : St H) (K : Ex → List Value → St H → Option (List (Value × St H))) :
 iter (fun t s k => exec Try.prog false C n 136 none (cdp Try.f136 [1, 0, 0]) t s k) (scratch (cdp Try.f136 [1, 0, 0])) m (f136_l0_m i0 i1 i5 i6 i7 x) s K = iterS (f136_l0 (dOps (H := H) Try.prog) C n i0 i6 i7) (fun i x s => K (.exit i) (f136_l0_m i0 i1 i5 i6 i7 x) s) (fun x s => K .ret (f136_l0_m i0 i1 i5 i6 i7 x) s) m x s :=
   iter_eq (f136_l0_m i0 i1 i5 i6 i7) (f136_l0 (dOps (H := H) Try.prog) C n i0 i6 i7) (fun x s nx K => f136_l0_b C n i0 i1 i5 i6 i7 x s nx K) K m x s
noncomputable def f136 (O : Ops H) (C : OracleJ H) (n : Nat) (a0 : Value) (a1 : Value) (s : St H) : Option (List (Value × St H)) :=
 (O.fieldAddr 48 a1 0).bind fun v1 =>
 (O.load s 45 v1).bind fun v2 =>
 (O.len s 45 v2).bind fun v3 =>
 iterS (f136_l0 O C n a0 v2 v3 )
 (fun i15 x16 s17 => (bif Nat.beq i15 0 then
 some [(.tuple #[], s17)] else none))
 (fun x18 s19 => some [(.tuple #[], s19)]) n (undefV, undefV, (Go.Value.int Go.IntKind.i64 0)) s
theorem f136_l0_k (C : OracleJ H) (n : Nat) (i0 : Value) (i1 : Value) (i5 : Value) (i6 : Value) (i7 : Value) (i : Nat) (x : Value × Value × Value) (s : St H) : (kBlock 0 (kFun Try.prog Try.f136)) (.exit i) (f136_l0_m i0 i1 i5 i6 i7 x) s =
 (bif Nat.beq i 0 then
 some [(.tuple #[], s)] else none) := by kernel_rfl
theorem f136_r (C : OracleJ H) (n : Nat) (a0 : Value) (a1 : Value) (s : St H) : bodyD Try.prog false C n 136 Try.f136 [a0, a1] s = f136 (dOps (H := H) Try.prog) C n a0 a1 s := by
  have h1 : bodyD Try.prog false C n 136 Try.f136 [a0, a1] s =
 ((dOps (H := H) Try.prog).fieldAddr 48 a1 0).bind fun v20 =>
 ((dOps (H := H) Try.prog).load s 45 v20).bind fun v21 =>
 ((dOps (H := H) Try.prog).len s 45 v21).bind fun v22 =>
 iter (fun t s k => exec Try.prog false C n 136 none (cdp Try.f136 [1, 0, 0]) t s k) (scratch (cdp Try.f136 [1, 0, 0])) n (f136_l0_m a0 a1 v20 v21 v22 (undefV, undefV, (Go.Value.int Go.IntKind.i64 0))) s (kBlock 0 (kFun Try.prog Try.f136)) := by kernel_rfl
  rw [h1]
  simp only [f136_l0_e, f136_l0_k]
  show _ = f136 (dOps (H := H) Try.prog) C n a0 a1 s
  kernel_rfl
/-! tidepole/vint.ReadBytes -/
noncomputable def f137 (O : Ops H) (C : OracleJ H) (n : Nat) (a0 : Value) (a1 : Value) (s : St H) : Option (List (Value × St H)) :=
 (C (.fn 74) [a0, a1] s).bind fun L1 => manyK L1 fun v2 s3 =>
 (O.extract v2 0).bind fun v4 =>
 (O.extract v2 1).bind fun v5 =>
 (O.extract v2 2).bind fun v6 =>
 (O.bop .neq 26 v6 (Go.Value.int Go.IntKind.i64 0)).bind fun v7 =>
 (O.boolO v7).bind fun b8 => cond b8 (
 some [(.tuple #[(fzV 2 #[]), (Go.Value.int Go.IntKind.i64 0), v6], s3)]) (
 (O.bop .gtr 70 v4 (Go.Value.int Go.IntKind.u64 65536)).bind fun v9 =>
 (O.boolO v9).bind fun b10 => cond b10 (
 some [(.tuple #[(fzV 2 #[]), (Go.Value.int Go.IntKind.i64 0), (Go.Value.int Go.IntKind.i64 3)], s3)]) (
 (O.len s3 35 a0).bind fun v11 =>
 (O.bop .sub 3 v11 v5).bind fun v12 =>
 (O.conv false s3 3 70 v12).bind fun p13 =>
 (O.bop .gtr 70 v4 p13.1).bind fun v14 =>
 (O.boolO v14).bind fun b15 => cond b15 (
 some [(.tuple #[(fzV 2 #[]), (Go.Value.int Go.IntKind.i64 0), (Go.Value.int Go.IntKind.i64 7)], p13.2)]) (
 (O.conv false p13.2 70 3 v4).bind fun p16 =>
 (O.bop .add 3 v5 p16.1).bind fun v17 =>
 (O.buildSlice false p16.2 35 0 []).bind fun p18 =>
 (O.slc p18.2 35 a0 (some v5) (some v17) none).bind fun v19 =>
 (O.append false p18.2 35 35 p18.1 v19).bind fun p20 =>
 some [(.tuple #[p20.1, v17, v6], p20.2)])))
theorem f137_r (C : OracleJ H) (n : Nat) (a0 : Value) (a1 : Value) (s : St H) : bodyD Try.prog false C n 137 Try.f137 [a0, a1] s = f137 (dOps (H := H) Try.prog) C n a0 a1 s := by kernel_rfl
/-! cmp.isNaN[string] -/
noncomputable def f162 (O : Ops H) (C : OracleJ H) (n : Nat) (a0 : Value) (s : St H) : Option (List (Value × St H)) :=
 (O.bop .neq 9 a0 a0).bind fun v1 =>
 some [(v1, s)]
theorem f162_r (C : OracleJ H) (n : Nat) (a0 : Value) (s : St H) : bodyD Try.prog false C n 162 Try.f162 [a0] s = f162 (dOps (H := H) Try.prog) C n a0 s := by kernel_rfl
end Go.Proofs.Ytmhmbmogodofeaa.S
