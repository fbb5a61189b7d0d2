/- The plain runs of functions (printed by shal.py). -/
import Derived.Test.YtmhmbmogodofeaaFw
import Derived.ProofKit
import Derived.Test.YtmhmbmogodofeaaRows
set_option autoImplicit false
set_option linter.unusedVariables false
set_option maxRecDepth 100000
namespace Go.Proofs.Ytmhmbmogodofeaa.S
open Go.FS Go.RowKit
variable {H : HeapI}
/-! tidepole/tidepolelaw19.RecBack -/
noncomputable def f12 (O : Ops H) (C : OracleJ H) (n : Nat) (a0 : Value) (a1 : Value) (s : St H) : Option (List (Value × St H)) :=
 (O.box s a0).bind fun p1 =>
 (C (.fn 42) [] p1.2).bind fun L2 => manyK L2 fun v3 s4 =>
 (O.uop .not v3).bind fun v5 =>
 (O.boolO v5).bind fun b6 => cond b6 (
 some [((.bool false), s4)]) (
 (O.load s4 72 p1.1).bind fun v7 =>
 (oneO C (.fn 39) [v7] s4).bind fun p8 =>
 (O.len p8.2 35 a1).bind fun v9 =>
 (O.minO v9 [(Go.Value.int Go.IntKind.i64 2000)]).bind fun v10 =>
 (O.slc p8.2 35 a1 none (some v10) none).bind fun v11 =>
 (O.store p8.2 72 p1.1 p8.1).bind fun s12 =>
 bif (eqO H (O.len s4 35 a1) v9 && (eqO H (O.len p8.2 35 a1) v9 && (eqO H (O.len s12 35 a1) v9 && (true)))) && (true) then
 (O.load s12 72 p1.1).bind fun v13 =>
 (C (.fn 43) [v13] s12).bind fun L14 => manyK L14 fun v15 s16 =>
 (O.extract v15 0).bind fun v17 =>
 (O.extract v15 1).bind fun v18 =>
 (O.bop .eql 26 v18 (Go.Value.int Go.IntKind.i64 0)).bind fun v19 =>
 jn (fun (js8 : St H) =>
 (C (.fn 44) [v11] js8).bind fun L62 => manyK L62 fun v63 s64 =>
 (O.extract v63 0).bind fun v65 =>
 (O.extract v63 1).bind fun v66 =>
 (O.alloc s64 72).bind fun p67 =>
 (O.store p67.2 72 p67.1 v65).bind fun s68 =>
 (O.bop .neq 26 v66 (Go.Value.int Go.IntKind.i64 0)).bind fun v69 =>
 (O.boolO v69).bind fun b70 => cond b70 (
 (O.load s68 72 p67.1).bind fun v71 =>
 (O.build 72 []).bind fun v72 =>
 (C (.fn 41) [v71, v72] s68).bind fun L73 => manyK L73 fun v74 s75 =>
 some [(v74, s75)]) (
 (O.load s68 72 p67.1).bind fun v76 =>
 (C (.fn 43) [v76] s68).bind fun L77 => manyK L77 fun v78 s79 =>
 (O.extract v78 0).bind fun v80 =>
 (O.extract v78 1).bind fun v81 =>
 (O.bop .eql 26 v81 (Go.Value.int Go.IntKind.i64 0)).bind fun v82 =>
 gd v82 (
 (C (.fn 26) [v80, v11] s79).bind fun L83 => manyK L83 fun v84 s85 =>
 some [(v84, s85)]) (
 some [((.bool false), s79)]) (
 none))) fun k8 =>
 (O.boolO v19).bind fun b20 => cond b20 (
 (C (.fn 44) [v17] s16).bind fun L21 => manyK L21 fun v22 s23 =>
 (O.extract v22 0).bind fun v24 =>
 (O.extract v22 1).bind fun v25 =>
 (O.alloc s23 72).bind fun p26 =>
 (O.store p26.2 72 p26.1 v24).bind fun s27 =>
 (O.bop .neq 26 v25 (Go.Value.int Go.IntKind.i64 0)).bind fun v28 =>
 gd v28 (
 some [((.bool false), s27)]) (
 (O.load s27 72 p26.1).bind fun v29 =>
 (O.load s27 72 p1.1).bind fun v30 =>
 (C (.fn 41) [v29, v30] s27).bind fun L31 => manyK L31 fun v32 s33 =>
 (O.uop .not v32).bind fun v34 =>
 (O.boolO v34).bind fun b37 => cond b37 (
 some [((.bool false), s33)]) (
 k8 s33)) (
 none)) (
 k8 s16)
 else none)
theorem f12_r (C : OracleJ H) (n : Nat) (a0 : Value) (a1 : Value) (s : St H) : bodyD Try.prog false C n 12 Try.f12 [a0, a1] s = f12 (dOps (H := H) Try.prog) C n a0 a1 s := by kernel_rfl
/-! tidepole/tidepolebase.SameLabels -/
def f21_l0_m (i0 : Value) (i1 : Value) (i6 : Value) (i7 : Value) (i8 : Value) (i9 : Value) (i10 : Value) (x : Value × Value) : List Value := [i0, i1, undefV, undefV, x.1, x.2, i6, i7, i8, i9, i10, dc, dc, dc, dc, dc, dc, dc, dc, dc, dc, dc, dc, dc, dc, dc]
noncomputable def f21_l0 (O : Ops H) (C : OracleJ H) (n : Nat) (i0 : Value) (i1 : Value) (nx : (Value × Value) → St H → Option (List (Value × St H))) (kx : Nat → (Value × Value) → St H → Option (List (Value × St H))) (kr : (Value × Value) → St H → Option (List (Value × St H))) (x : Value × Value) (s : St H) : Option (List (Value × St H)) :=
 (O.len s 23 i0).bind fun v5 =>
 (O.bop .lss 3 x.2 v5).bind fun v6 =>
 (O.boolO v6).bind fun b7 => cond b7 (
 (O.indexAddr 23 i0 x.2).bind fun v8 =>
 (O.load s 106 v8).bind fun v9 =>
 (O.indexAddr 23 i1 x.2).bind fun v10 =>
 (O.load s 106 v10).bind fun v11 =>
 (O.bop .neq 106 v9 v11).bind fun v12 =>
 (O.boolO v12).bind fun b13 => cond b13 (
 kr ((.bool false), x.2) s) (
 (O.bop .add 3 x.2 (Go.Value.int Go.IntKind.i64 1)).bind fun v14 =>
 nx (x.1, v14) s)) (
 kx 0 (x.1, x.2) s)
theorem f21_l0_b (C : OracleJ H) (n : Nat) (i0 : Value) (i1 : Value) (i6 : Value) (i7 : Value) (i8 : Value) (i9 : Value) (i10 : Value) (x : Value × Value) (s : St H) (nx : List Value → St H → Option (List (Value × St H))) (K : Ex → List Value → St H → Option (List (Value × St H))) :
 exec Try.prog false C n 21 none (cdp Try.f21 [1, 1, 0, 1, 0, 0]) (f21_l0_m i0 i1 i6 i7 i8 i9 i10 x) s (kIter (scratch (cdp Try.f21 [1, 1, 0, 1, 0, 0])) nx K) = f21_l0 (dOps (H := H) Try.prog) C n i0 i1 (fun x s => nx (f21_l0_m i0 i1 i6 i7 i8 i9 i10 x) s) (fun i x s => K (.exit i) (f21_l0_m i0 i1 i6 i7 i8 i9 i10 x) s) (fun x s => K .ret (f21_l0_m i0 i1 i6 i7 i8 i9 i10 x) s) x s := by kernel_rfl
theorem f21_l0_e (C : OracleJ H) (n : Nat) (i0 : Value) (i1 : Value) (i6 : Value) (i7 : Value) (i8 : Value) (i9 : Value) (i10 : Value) (m : Nat) (x : Value × Value) (s : St H) (K : Ex → List Value → St H → Option (List (Value × St H))) :
 iter (fun t s k => exec Try.prog false C n 21 none (cdp Try.f21 [1, 1, 0, 1, 0, 0]) t s k) (scratch (cdp Try.f21 [1, 1, 0, 1, 0, 0])) m (f21_l0_m i0 i1 i6 i7 i8 i9 i10 x) s K = iterS (f21_l0 (dOps (H := H) Try.prog) C n i0 i1) (fun i x s => K (.exit i) (f21_l0_m i0 i1 i6 i7 i8 i9 i10 x) s) (fun x s => K .ret (f21_l0_m i0 i1 i6 i7 i8 i9 i10 x) s) m x s :=
   iter_eq (f21_l0_m i0 i1 i6 i7 i8 i9 i10) (f21_l0 (dOps (H := H) Try.prog) C n i0 i1) (fun x s nx K => f21_l0_b C n i0 i1 i6 i7 i8 i9 i10 x s nx K) K m x s
noncomputable def f21 (O : Ops H) (C : OracleJ H) (n : Nat) (a0 : Value) (a1 : Value) (s : St H) : Option (List (Value × St H)) :=
 (O.len s 23 a0).bind fun v1 =>
 (O.len s 23 a1).bind fun v2 =>
 (O.bop .neq 3 v1 v2).bind fun v3 =>
 (O.boolO v3).bind fun b4 => cond b4 (
 some [((.bool false), s)]) (
 iterS (f21_l0 O C n a0 a1 )
 (fun i15 x16 s17 => (bif Nat.beq i15 0 then
 some [((.bool true), s17)] else none))
 (fun x18 s19 => some [(x18.1, s19)]) n ((.bool false), (Go.Value.int Go.IntKind.i64 0)) s)
theorem f21_l0_k (C : OracleJ H) (n : Nat) (i0 : Value) (i1 : Value) (i6 : Value) (i7 : Value) (i8 : Value) (i9 : Value) (i10 : Value) (i : Nat) (x : Value × Value) (s : St H) : (kBlock 0 (kSeq Try.prog false C n 21 none (cdp Try.f21 [1, 1, 1]) (kFun Try.prog Try.f21))) (.exit i) (f21_l0_m i0 i1 i6 i7 i8 i9 i10 x) s =
 (bif Nat.beq i 0 then
 some [((.bool true), s)] else none) := by kernel_rfl
theorem f21_r (C : OracleJ H) (n : Nat) (a0 : Value) (a1 : Value) (s : St H) : bodyD Try.prog false C n 21 Try.f21 [a0, a1] s = f21 (dOps (H := H) Try.prog) C n a0 a1 s := by
  have h1 : bodyD Try.prog false C n 21 Try.f21 [a0, a1] s =
 ((dOps (H := H) Try.prog).len s 23 a0).bind fun v20 =>
 ((dOps (H := H) Try.prog).len s 23 a1).bind fun v21 =>
 ((dOps (H := H) Try.prog).bop .neq 3 v20 v21).bind fun v22 =>
 ((dOps (H := H) Try.prog).boolO v22).bind fun b23 => cond b23 (
 some [((.bool false), s)]) (
 iter (fun t s k => exec Try.prog false C n 21 none (cdp Try.f21 [1, 1, 0, 1, 0, 0]) t s k) (scratch (cdp Try.f21 [1, 1, 0, 1, 0, 0])) n (f21_l0_m a0 a1 a0 v20 a1 v21 v22 ((.bool false), (Go.Value.int Go.IntKind.i64 0))) s (kBlock 0 (kSeq Try.prog false C n 21 none (cdp Try.f21 [1, 1, 1]) (kFun Try.prog Try.f21)))) := by kernel_rfl
  rw [h1]
  simp only [f21_l0_e, f21_l0_k]
  show _ = f21 (dOps (H := H) Try.prog) C n a0 a1 s
  kernel_rfl
/-! tidepole/label.Check -/
def f22_l0_m (i0 : Value) (i6 : Value) (i7 : Value) (i8 : Value) (i10 : Value) (i11 : Value) (i12 : Value) (i13 : Value) (i14 : Value) (i15 : Value) (x : Value × Value × Value) : List Value := [i0, undefV, x.1, x.2.1, undefV, dc, i6, i7, i8, (.bool false), i10, i11, i12, i13, i14, i15, x.2.2, dc, dc, dc, dc, dc, dc, dc, dc, dc, dc, dc, dc, dc, dc, dc, dc, dc, dc, dc, dc, dc, dc, dc, dc, dc, dc, dc]
noncomputable def f22_l0 (O : Ops H) (C : OracleJ H) (n : Nat) (i14 : Value) (i15 : Value) (nx : (Value × Value × Value) → St H → Option (List (Value × St H))) (kx : Nat → (Value × Value × Value) → St H → Option (List (Value × St H))) (kr : (Value × Value × Value) → St H → Option (List (Value × St H))) (x : Value × Value × Value) (s : St H) : Option (List (Value × St H)) :=
 (O.bop .lss 3 x.2.2 i15).bind fun v9 =>
 (O.boolO v9).bind fun b10 => cond b10 (
 (O.indexAddr 23 i14 x.2.2).bind fun v11 =>
 (O.load s 106 v11).bind fun v12 =>
 (O.alloc s 106).bind fun p13 =>
 (O.store p13.2 106 p13.1 v12).bind fun s14 =>
 (O.fieldAddr 106 p13.1 0).bind fun v15 =>
 (O.load s14 9 v15).bind fun v16 =>
 (C (.fn 68) [v16] s14).bind fun L17 => manyK L17 fun v18 s19 =>
 (O.uop .not v18).bind fun v20 =>
 gd v20 (
 kr ((Go.Value.int Go.IntKind.i64 40), x.2.1, x.2.2) s19) (
 (O.fieldAddr 106 p13.1 0).bind fun v21 =>
 (O.load s19 9 v21).bind fun v22 =>
 (O.bop .leq 9 v22 x.2.1).bind fun v23 =>
 gd v23 (
 kr ((Go.Value.int Go.IntKind.i64 40), x.2.1, x.2.2) s19) (
 (O.fieldAddr 106 p13.1 1).bind fun v24 =>
 (O.load s19 9 v24).bind fun v25 =>
 (O.bop .eql 9 v25 (Go.Value.string { data := #[] })).bind fun v26 =>
 gd v26 (
 kr ((Go.Value.int Go.IntKind.i64 40), x.2.1, x.2.2) s19) (
 (O.fieldAddr 106 p13.1 1).bind fun v27 =>
 (O.load s19 9 v27).bind fun v28 =>
 (O.len s19 9 v28).bind fun v29 =>
 (O.bop .gtr 3 v29 (Go.Value.int Go.IntKind.i64 256)).bind fun v30 =>
 (O.boolO v30).bind fun b35 => cond b35 (
 kr ((Go.Value.int Go.IntKind.i64 40), x.2.1, x.2.2) s19) (
 (O.fieldAddr 106 p13.1 0).bind fun v36 =>
 (O.load s19 9 v36).bind fun v37 =>
 (O.bop .add 3 x.2.2 (Go.Value.int Go.IntKind.i64 1)).bind fun v38 =>
 nx (x.1, v37, v38) s19)) (
 none)) (
 none)) (
 none)) (
 kx 0 (x.1, x.2.1, x.2.2) s)
theorem f22_l0_b (C : OracleJ H) (n : Nat) (i0 : Value) (i6 : Value) (i7 : Value) (i8 : Value) (i10 : Value) (i11 : Value) (i12 : Value) (i13 : Value) (i14 : Value) (i15 : Value) (x : Value × Value × Value) (s : St H) (nx : List Value → St H → Option (List (Value × St H))) (K : Ex → List Value → St H → Option (List (Value × St H))) :
 exec Try.prog false C n 22 none (cdp Try.f22 [1, 1, 1, 0, 1, 0, 0]) (f22_l0_m i0 i6 i7 i8 i10 i11 i12 i13 i14 i15 x) s (kIter (scratch (cdp Try.f22 [1, 1, 1, 0, 1, 0, 0])) nx K) = f22_l0 (dOps (H := H) Try.prog) C n i14 i15 (fun x s => nx (f22_l0_m i0 i6 i7 i8 i10 i11 i12 i13 i14 i15 x) s) (fun i x s => K (.exit i) (f22_l0_m i0 i6 i7 i8 i10 i11 i12 i13 i14 i15 x) s) (fun x s => K .ret (f22_l0_m i0 i6 i7 i8 i10 i11 i12 i13 i14 i15 x) s) x s := by kernel_rfl
theorem f22_l0_e (C : OracleJ H) (n : Nat) (i0 : Value) (i6 : Value) (i7 : Value) (i8 : Value) (i10 : Value) (i11 : Value) (i12 : Value) (i13 : Value) (i14 : Value) (i15 : Value) (m : Nat) (x : Value × Value × Value) (s : St H) (K : Ex → List Value → St H → Option (List (Value × St H))) :
 iter (fun t s k => exec Try.prog false C n 22 none (cdp Try.f22 [1, 1, 1, 0, 1, 0, 0]) t s k) (scratch (cdp Try.f22 [1, 1, 1, 0, 1, 0, 0])) m (f22_l0_m i0 i6 i7 i8 i10 i11 i12 i13 i14 i15 x) s K = iterS (f22_l0 (dOps (H := H) Try.prog) C n i14 i15) (fun i x s => K (.exit i) (f22_l0_m i0 i6 i7 i8 i10 i11 i12 i13 i14 i15 x) s) (fun x s => K .ret (f22_l0_m i0 i6 i7 i8 i10 i11 i12 i13 i14 i15 x) s) m x s :=
   iter_eq (f22_l0_m i0 i6 i7 i8 i10 i11 i12 i13 i14 i15) (f22_l0 (dOps (H := H) Try.prog) C n i14 i15) (fun x s nx K => f22_l0_b C n i0 i6 i7 i8 i10 i11 i12 i13 i14 i15 x s nx K) K m x s
noncomputable def f22 (O : Ops H) (C : OracleJ H) (n : Nat) (a0 : Value) (s : St H) : Option (List (Value × St H)) :=
 (O.len s 23 a0).bind fun v1 =>
 (O.bop .eql 3 v1 (Go.Value.int Go.IntKind.i64 0)).bind fun v2 =>
 gd v2 (
 some [((Go.Value.int Go.IntKind.i64 40), s)]) (
 (O.len s 23 a0).bind fun v3 =>
 (O.bop .gtr 3 v3 (Go.Value.int Go.IntKind.i64 16)).bind fun v4 =>
 (O.boolO v4).bind fun b7 => cond b7 (
 some [((Go.Value.int Go.IntKind.i64 40), s)]) (
 (O.len s 23 a0).bind fun v8 =>
 iterS (f22_l0 O C n a0 v8 )
 (fun i39 x40 s41 => (bif Nat.beq i39 0 then
 some [((Go.Value.int Go.IntKind.i64 0), s41)] else none))
 (fun x42 s43 => some [(x42.1, s43)]) n ((Go.Value.int Go.IntKind.i64 0), (Go.Value.string { data := #[] }), (Go.Value.int Go.IntKind.i64 0)) s)) (
 none)
theorem f22_l0_k (C : OracleJ H) (n : Nat) (i0 : Value) (i6 : Value) (i7 : Value) (i8 : Value) (i10 : Value) (i11 : Value) (i12 : Value) (i13 : Value) (i14 : Value) (i15 : Value) (i : Nat) (x : Value × Value × Value) (s : St H) : (kBlock 0 (kSeq Try.prog false C n 22 none (cdp Try.f22 [1, 1, 1, 1]) (kFun Try.prog Try.f22))) (.exit i) (f22_l0_m i0 i6 i7 i8 i10 i11 i12 i13 i14 i15 x) s =
 (bif Nat.beq i 0 then
 some [((Go.Value.int Go.IntKind.i64 0), s)] else none) := by kernel_rfl
theorem f22_r (C : OracleJ H) (n : Nat) (a0 : Value) (s : St H) : bodyD Try.prog false C n 22 Try.f22 [a0] s = f22 (dOps (H := H) Try.prog) C n a0 s := by
  have h1 : bodyD Try.prog false C n 22 Try.f22 [a0] s =
 ((dOps (H := H) Try.prog).len s 23 a0).bind fun v44 =>
 ((dOps (H := H) Try.prog).bop .eql 3 v44 (Go.Value.int Go.IntKind.i64 0)).bind fun v45 =>
 gd v45 (
 some [((Go.Value.int Go.IntKind.i64 40), s)]) (
 ((dOps (H := H) Try.prog).len s 23 a0).bind fun v46 =>
 ((dOps (H := H) Try.prog).bop .gtr 3 v46 (Go.Value.int Go.IntKind.i64 16)).bind fun v47 =>
 ((dOps (H := H) Try.prog).boolO v47).bind fun b50 => cond b50 (
 some [((Go.Value.int Go.IntKind.i64 40), s)]) (
 ((dOps (H := H) Try.prog).len s 23 a0).bind fun v51 =>
 iter (fun t s k => exec Try.prog false C n 22 none (cdp Try.f22 [1, 1, 1, 0, 1, 0, 0]) t s k) (scratch (cdp Try.f22 [1, 1, 1, 0, 1, 0, 0])) n (f22_l0_m a0 a0 v44 v45 a0 v46 v47 v47 a0 v51 ((Go.Value.int Go.IntKind.i64 0), (Go.Value.string { data := #[] }), (Go.Value.int Go.IntKind.i64 0))) s (kBlock 0 (kSeq Try.prog false C n 22 none (cdp Try.f22 [1, 1, 1, 1]) (kFun Try.prog Try.f22))))) (
 none) := by kernel_rfl
  rw [h1]
  simp only [f22_l0_e, f22_l0_k]
  show _ = f22 (dOps (H := H) Try.prog) C n a0 s
  kernel_rfl
/-! tidepole/label.Put -/
def f24_l0_m (i0 : Value) (i1 : Value) (i4 : Value) (i6 : Value) (i10 : Value) (i11 : Value) (i12 : Value) (i13 : Value) (i15 : Value) (i16 : Value) (i17 : Value) (i18 : Value) (i19 : Value) (i20 : Value) (i21 : Value) (x : Value × Value) : List Value := [i0, i1, undefV, undefV, i4, (Go.Value.int Go.IntKind.i64 0), i6, x.1, undefV, dc, i10, i11, i12, i13, undefV, i15, i16, i17, i18, i19, i20, i21, x.2, dc, dc, dc, dc, dc, dc, dc, dc, dc, dc, dc, dc, dc, dc, dc, dc, dc, dc, dc, dc, undefV]
noncomputable def f24_l0 (O : Ops H) (C : OracleJ H) (n : Nat) (i20 : Value) (i21 : Value) (nx : (Value × Value) → St H → Option (List (Value × St H))) (kx : Nat → (Value × Value) → St H → Option (List (Value × St H))) (kr : (Value × Value) → St H → Option (List (Value × St H))) (x : Value × Value) (s : St H) : Option (List (Value × St H)) :=
 (O.bop .lss 3 x.2 i21).bind fun v12 =>
 (O.boolO v12).bind fun b13 => cond b13 (
 (O.indexAddr 23 i20 x.2).bind fun v14 =>
 (O.load s 106 v14).bind fun v15 =>
 (O.alloc s 106).bind fun p16 =>
 (O.store p16.2 106 p16.1 v15).bind fun s17 =>
 (O.fieldAddr 106 p16.1 0).bind fun v18 =>
 (O.load s17 9 v18).bind fun v19 =>
 (O.conv false s17 9 35 v19).bind fun p20 =>
 (C (.fn 73) [x.1, p20.1] p20.2).bind fun L21 => manyK L21 fun v22 s23 =>
 (O.extract v22 0).bind fun v24 =>
 (O.extract v22 1).bind fun v25 =>
 (O.fieldAddr 106 p16.1 1).bind fun v26 =>
 (O.load s23 9 v26).bind fun v27 =>
 (O.conv false s23 9 35 v27).bind fun p28 =>
 (C (.fn 73) [v24, p28.1] p28.2).bind fun L29 => manyK L29 fun v30 s31 =>
 (O.extract v30 0).bind fun v32 =>
 (O.extract v30 1).bind fun v33 =>
 (O.bop .add 3 x.2 (Go.Value.int Go.IntKind.i64 1)).bind fun v34 =>
 nx (v32, v34) s31) (
 kx 0 (x.1, x.2) s)
theorem f24_l0_b (C : OracleJ H) (n : Nat) (i0 : Value) (i1 : Value) (i4 : Value) (i6 : Value) (i10 : Value) (i11 : Value) (i12 : Value) (i13 : Value) (i15 : Value) (i16 : Value) (i17 : Value) (i18 : Value) (i19 : Value) (i20 : Value) (i21 : Value) (x : Value × Value) (s : St H) (nx : List Value → St H → Option (List (Value × St H))) (K : Ex → List Value → St H → Option (List (Value × St H))) :
 exec Try.prog false C n 24 none (cdp Try.f24 [1, 1, 1, 0, 1, 0, 0]) (f24_l0_m i0 i1 i4 i6 i10 i11 i12 i13 i15 i16 i17 i18 i19 i20 i21 x) s (kIter (scratch (cdp Try.f24 [1, 1, 1, 0, 1, 0, 0])) nx K) = f24_l0 (dOps (H := H) Try.prog) C n i20 i21 (fun x s => nx (f24_l0_m i0 i1 i4 i6 i10 i11 i12 i13 i15 i16 i17 i18 i19 i20 i21 x) s) (fun i x s => K (.exit i) (f24_l0_m i0 i1 i4 i6 i10 i11 i12 i13 i15 i16 i17 i18 i19 i20 i21 x) s) (fun x s => K .ret (f24_l0_m i0 i1 i4 i6 i10 i11 i12 i13 i15 i16 i17 i18 i19 i20 i21 x) s) x s := by kernel_rfl
theorem f24_l0_e (C : OracleJ H) (n : Nat) (i0 : Value) (i1 : Value) (i4 : Value) (i6 : Value) (i10 : Value) (i11 : Value) (i12 : Value) (i13 : Value) (i15 : Value) (i16 : Value) (i17 : Value) (i18 : Value) (i19 : Value) (i20 : Value) (i21 : Value) (m : Nat) (x : Value × Value) (s : St H) (K : Ex → List Value → St H → Option (List (Value × St H))) :
 iter (fun t s k => exec Try.prog false C n 24 none (cdp Try.f24 [1, 1, 1, 0, 1, 0, 0]) t s k) (scratch (cdp Try.f24 [1, 1, 1, 0, 1, 0, 0])) m (f24_l0_m i0 i1 i4 i6 i10 i11 i12 i13 i15 i16 i17 i18 i19 i20 i21 x) s K = iterS (f24_l0 (dOps (H := H) Try.prog) C n i20 i21) (fun i x s => K (.exit i) (f24_l0_m i0 i1 i4 i6 i10 i11 i12 i13 i15 i16 i17 i18 i19 i20 i21 x) s) (fun x s => K .ret (f24_l0_m i0 i1 i4 i6 i10 i11 i12 i13 i15 i16 i17 i18 i19 i20 i21 x) s) m x s :=
   iter_eq (f24_l0_m i0 i1 i4 i6 i10 i11 i12 i13 i15 i16 i17 i18 i19 i20 i21) (f24_l0 (dOps (H := H) Try.prog) C n i20 i21) (fun x s nx K => f24_l0_b C n i0 i1 i4 i6 i10 i11 i12 i13 i15 i16 i17 i18 i19 i20 i21 x s nx K) K m x s
noncomputable def f24 (O : Ops H) (C : OracleJ H) (n : Nat) (a0 : Value) (a1 : Value) (s : St H) : Option (List (Value × St H)) :=
 (C (.fn 22) [a1] s).bind fun L1 => manyK L1 fun v2 s3 =>
 (O.bop .neq 26 v2 (Go.Value.int Go.IntKind.i64 0)).bind fun v4 =>
 (O.boolO v4).bind fun b5 => cond b5 (
 some [(.tuple #[(fzV 2 #[]), v2], s3)]) (
 (O.len s3 23 a1).bind fun v6 =>
 (O.conv false s3 3 70 v6).bind fun p7 =>
 (C (.fn 72) [a0, p7.1] p7.2).bind fun L8 => manyK L8 fun v9 s10 =>
 (O.len s10 23 a1).bind fun v11 =>
 iterS (f24_l0 O C n a1 v11 )
 (fun i35 x36 s37 => (bif Nat.beq i35 0 then
 some [(.tuple #[x36.1, (Go.Value.int Go.IntKind.i64 0)], s37)] else none))
 (fun x38 s39 => some [(.tuple #[(fzV 2 #[]), (Go.Value.int Go.IntKind.i64 0)], s39)]) n (v9, (Go.Value.int Go.IntKind.i64 0)) s10)
theorem f24_l0_k (C : OracleJ H) (n : Nat) (i0 : Value) (i1 : Value) (i4 : Value) (i6 : Value) (i10 : Value) (i11 : Value) (i12 : Value) (i13 : Value) (i15 : Value) (i16 : Value) (i17 : Value) (i18 : Value) (i19 : Value) (i20 : Value) (i21 : Value) (i : Nat) (x : Value × Value) (s : St H) : (kBlock 0 (kSeq Try.prog false C n 24 none (cdp Try.f24 [1, 1, 1, 1]) (kFun Try.prog Try.f24))) (.exit i) (f24_l0_m i0 i1 i4 i6 i10 i11 i12 i13 i15 i16 i17 i18 i19 i20 i21 x) s =
 (bif Nat.beq i 0 then
 some [(.tuple #[x.1, (Go.Value.int Go.IntKind.i64 0)], s)] else none) := by kernel_rfl
theorem f24_r (C : OracleJ H) (n : Nat) (a0 : Value) (a1 : Value) (s : St H) : bodyD Try.prog false C n 24 Try.f24 [a0, a1] s = f24 (dOps (H := H) Try.prog) C n a0 a1 s := by
  have h1 : bodyD Try.prog false C n 24 Try.f24 [a0, a1] s =
 (C (.fn 22) [a1] s).bind fun L40 => manyK L40 fun v41 s42 =>
 ((dOps (H := H) Try.prog).bop .neq 26 v41 (Go.Value.int Go.IntKind.i64 0)).bind fun v43 =>
 ((dOps (H := H) Try.prog).boolO v43).bind fun b44 => cond b44 (
 some [(.tuple #[(fzV 2 #[]), v41], s42)]) (
 ((dOps (H := H) Try.prog).len s42 23 a1).bind fun v45 =>
 ((dOps (H := H) Try.prog).conv false s42 3 70 v45).bind fun p46 =>
 (C (.fn 72) [a0, p46.1] p46.2).bind fun L47 => manyK L47 fun v48 s49 =>
 ((dOps (H := H) Try.prog).len s49 23 a1).bind fun v50 =>
 iter (fun t s k => exec Try.prog false C n 24 none (cdp Try.f24 [1, 1, 1, 0, 1, 0, 0]) t s k) (scratch (cdp Try.f24 [1, 1, 1, 0, 1, 0, 0])) n (f24_l0_m a0 a1 (fzV 2 #[]) v41 a1 v41 v41 v43 a0 a1 v45 p46.1 v48 a1 v50 (v48, (Go.Value.int Go.IntKind.i64 0))) s49 (kBlock 0 (kSeq Try.prog false C n 24 none (cdp Try.f24 [1, 1, 1, 1]) (kFun Try.prog Try.f24)))) := by kernel_rfl
  rw [h1]
  simp only [f24_l0_e, f24_l0_k]
  show _ = f24 (dOps (H := H) Try.prog) C n a0 a1 s
  kernel_rfl
/-! tidepole/label.Read -/
def f25_l0_m (i0 : Value) (i7 : Value) (i8 : Value) (i14 : Value) (i15 : Value) (i16 : Value) (i17 : Value) (i18 : Value) (i19 : Value) (i20 : Value) (i21 : Value) (i22 : Value) (i23 : Value) (i25 : Value) (i26 : Value) (i27 : Value) (i28 : Value) (i29 : Value) (x : Value × Value × Value × Value × Value × Value × Value × Value) : List Value := [i0, x.1, undefV, undefV, x.2.1, x.2.2.1, x.2.2.2.1, i7, i8, x.2.2.2.2.1, dc, x.2.2.2.2.2.1, x.2.2.2.2.2.2.1, undefV, i14, i15, i16, i17, i18, i19, i20, i21, i22, i23, undefV, i25, i26, i27, i28, i29, x.2.2.2.2.2.2.2, dc, dc, dc, dc, dc, dc, dc, dc, dc, dc, dc, dc, dc, dc, dc, dc, dc, undefV, undefV, undefV, undefV, undefV, undefV, undefV]
noncomputable def f25_l0 (O : Ops H) (C : OracleJ H) (n : Nat) (i0 : Value) (i29 : Value) (nx : (Value × Value × Value × Value × Value × Value × Value × Value) → St H → Option (List (Value × St H))) (kx : Nat → (Value × Value × Value × Value × Value × Value × Value × Value) → St H → Option (List (Value × St H))) (kr : (Value × Value × Value × Value × Value × Value × Value × Value) → St H → Option (List (Value × St H))) (x : Value × Value × Value × Value × Value × Value × Value × Value) (s : St H) : Option (List (Value × St H)) :=
 (O.bop .lss 3 x.2.2.2.2.2.2.2 i29).bind fun v12 =>
 (O.boolO v12).bind fun b13 => cond b13 (
 (C (.fn 75) [i0, x.1] s).bind fun L14 => manyK L14 fun v15 s16 =>
 (O.extract v15 0).bind fun v17 =>
 (O.extract v15 1).bind fun v18 =>
 (O.extract v15 2).bind fun v19 =>
 (O.alloc s16 106).bind fun p20 =>
 (O.store p20.2 106 p20.1 v17).bind fun s21 =>
 (O.bop .neq 26 v19 (Go.Value.int Go.IntKind.i64 0)).bind fun v22 =>
 (O.boolO v22).bind fun b23 => cond b23 (
 kr (x.1, (fzV 2 #[]), (Go.Value.int Go.IntKind.i64 0), v19, x.2.2.2.2.1, v18, v19, x.2.2.2.2.2.2.2) s21) (
 (O.load s21 106 p20.1).bind fun v24 =>
 (O.buildSlice false s21 23 1 [(0, v24)]).bind fun p25 =>
 (O.append false p25.2 23 23 x.2.2.2.2.1 p25.1).bind fun p26 =>
 (O.bop .add 3 x.2.2.2.2.2.2.2 (Go.Value.int Go.IntKind.i64 1)).bind fun v27 =>
 nx (v18, x.2.1, x.2.2.1, x.2.2.2.1, p26.1, v18, v19, v27) p26.2)) (
 kx 1 (x.1, x.2.1, x.2.2.1, x.2.2.2.1, x.2.2.2.2.1, x.2.2.2.2.2.1, x.2.2.2.2.2.2.1, x.2.2.2.2.2.2.2) s)
theorem f25_l0_b (C : OracleJ H) (n : Nat) (i0 : Value) (i7 : Value) (i8 : Value) (i14 : Value) (i15 : Value) (i16 : Value) (i17 : Value) (i18 : Value) (i19 : Value) (i20 : Value) (i21 : Value) (i22 : Value) (i23 : Value) (i25 : Value) (i26 : Value) (i27 : Value) (i28 : Value) (i29 : Value) (x : Value × Value × Value × Value × Value × Value × Value × Value) (s : St H) (nx : List Value → St H → Option (List (Value × St H))) (K : Ex → List Value → St H → Option (List (Value × St H))) :
 exec Try.prog false C n 25 none (cdp Try.f25 [1, 1, 1, 1, 0, 1, 0, 0]) (f25_l0_m i0 i7 i8 i14 i15 i16 i17 i18 i19 i20 i21 i22 i23 i25 i26 i27 i28 i29 x) s (kIter (scratch (cdp Try.f25 [1, 1, 1, 1, 0, 1, 0, 0])) nx K) = f25_l0 (dOps (H := H) Try.prog) C n i0 i29 (fun x s => nx (f25_l0_m i0 i7 i8 i14 i15 i16 i17 i18 i19 i20 i21 i22 i23 i25 i26 i27 i28 i29 x) s) (fun i x s => K (.exit i) (f25_l0_m i0 i7 i8 i14 i15 i16 i17 i18 i19 i20 i21 i22 i23 i25 i26 i27 i28 i29 x) s) (fun x s => K .ret (f25_l0_m i0 i7 i8 i14 i15 i16 i17 i18 i19 i20 i21 i22 i23 i25 i26 i27 i28 i29 x) s) x s := by kernel_rfl
theorem f25_l0_e (C : OracleJ H) (n : Nat) (i0 : Value) (i7 : Value) (i8 : Value) (i14 : Value) (i15 : Value) (i16 : Value) (i17 : Value) (i18 : Value) (i19 : Value) (i20 : Value) (i21 : Value) (i22 : Value) (i23 : Value) (i25 : Value) (i26 : Value) (i27 : Value) (i28 : Value) (i29 : Value) (m : Nat) (x : Value × Value × Value × Value × Value × Value × Value × Value) (s : St H) (K : Ex → List Value → St H → Option (List (Value × St H))) :
 iter (fun t s k => exec Try.prog false C n 25 none (cdp Try.f25 [1, 1, 1, 1, 0, 1, 0, 0]) t s k) (scratch (cdp Try.f25 [1, 1, 1, 1, 0, 1, 0, 0])) m (f25_l0_m i0 i7 i8 i14 i15 i16 i17 i18 i19 i20 i21 i22 i23 i25 i26 i27 i28 i29 x) s K = iterS (f25_l0 (dOps (H := H) Try.prog) C n i0 i29) (fun i x s => K (.exit i) (f25_l0_m i0 i7 i8 i14 i15 i16 i17 i18 i19 i20 i21 i22 i23 i25 i26 i27 i28 i29 x) s) (fun x s => K .ret (f25_l0_m i0 i7 i8 i14 i15 i16 i17 i18 i19 i20 i21 i22 i23 i25 i26 i27 i28 i29 x) s) m x s :=
   iter_eq (f25_l0_m i0 i7 i8 i14 i15 i16 i17 i18 i19 i20 i21 i22 i23 i25 i26 i27 i28 i29) (f25_l0 (dOps (H := H) Try.prog) C n i0 i29) (fun x s nx K => f25_l0_b C n i0 i7 i8 i14 i15 i16 i17 i18 i19 i20 i21 i22 i23 i25 i26 i27 i28 i29 x s nx K) K m x s
noncomputable def f25 (O : Ops H) (C : OracleJ H) (n : Nat) (a0 : Value) (a1 : Value) (s : St H) : Option (List (Value × St H)) :=
 (C (.fn 74) [a0, a1] s).bind fun L1 => manyK L1 fun v2 s3 =>
 (O.extract v2 0).bind fun v4 =>
 (O.extract v2 1).bind fun v5 =>
 (O.extract v2 2).bind fun v6 =>
 (O.bop .neq 26 v6 (Go.Value.int Go.IntKind.i64 0)).bind fun v7 =>
 (O.boolO v7).bind fun b8 => cond b8 (
 some [(.tuple #[(fzV 2 #[]), (Go.Value.int Go.IntKind.i64 0), v6], s3)]) (
 (O.bop .gtr 70 v4 (Go.Value.int Go.IntKind.u64 16)).bind fun v9 =>
 (O.boolO v9).bind fun b10 => cond b10 (
 some [(.tuple #[(fzV 2 #[]), (Go.Value.int Go.IntKind.i64 0), (Go.Value.int Go.IntKind.i64 40)], s3)]) (
 (O.conv false s3 70 3 v4).bind fun p11 =>
 iterS (f25_l0 O C n a0 p11.1 )
 (fun i28 x29 s30 => (bif Nat.beq i28 1 then
 (C (.fn 22) [x29.2.2.2.2.1] s30).bind fun L33 => manyK L33 fun v34 s35 =>
 (O.bop .neq 26 v34 (Go.Value.int Go.IntKind.i64 0)).bind fun v36 =>
 (O.boolO v36).bind fun b37 => cond b37 (
 some [(.tuple #[(fzV 2 #[]), (Go.Value.int Go.IntKind.i64 0), v34], s35)]) (
 some [(.tuple #[x29.2.2.2.2.1, x29.1, (Go.Value.int Go.IntKind.i64 0)], s35)]) else none))
 (fun x31 s32 => some [(.tuple #[x31.2.1, x31.2.2.1, x31.2.2.2.1], s32)]) n (v5, (fzV 2 #[]), (Go.Value.int Go.IntKind.i64 0), (Go.Value.int Go.IntKind.i64 0), (fzV 2 #[]), undefV, undefV, (Go.Value.int Go.IntKind.i64 0)) p11.2))
theorem f25_l0_k (C : OracleJ H) (n : Nat) (i0 : Value) (i7 : Value) (i8 : Value) (i14 : Value) (i15 : Value) (i16 : Value) (i17 : Value) (i18 : Value) (i19 : Value) (i20 : Value) (i21 : Value) (i22 : Value) (i23 : Value) (i25 : Value) (i26 : Value) (i27 : Value) (i28 : Value) (i29 : Value) (i : Nat) (x : Value × Value × Value × Value × Value × Value × Value × Value) (s : St H) : (kBlock 1 (kSeq Try.prog false C n 25 none (cdp Try.f25 [1, 1, 1, 1, 1]) (kFun Try.prog Try.f25))) (.exit i) (f25_l0_m i0 i7 i8 i14 i15 i16 i17 i18 i19 i20 i21 i22 i23 i25 i26 i27 i28 i29 x) s =
 (bif Nat.beq i 1 then
 (C (.fn 22) [x.2.2.2.2.1] s).bind fun L54 => manyK L54 fun v55 s56 =>
 ((dOps (H := H) Try.prog).bop .neq 26 v55 (Go.Value.int Go.IntKind.i64 0)).bind fun v57 =>
 ((dOps (H := H) Try.prog).boolO v57).bind fun b58 => cond b58 (
 some [(.tuple #[(fzV 2 #[]), (Go.Value.int Go.IntKind.i64 0), v55], s56)]) (
 some [(.tuple #[x.2.2.2.2.1, x.1, (Go.Value.int Go.IntKind.i64 0)], s56)]) else none) := by kernel_rfl
theorem f25_r (C : OracleJ H) (n : Nat) (a0 : Value) (a1 : Value) (s : St H) : bodyD Try.prog false C n 25 Try.f25 [a0, a1] s = f25 (dOps (H := H) Try.prog) C n a0 a1 s := by
  have h1 : bodyD Try.prog false C n 25 Try.f25 [a0, a1] s =
 (C (.fn 74) [a0, a1] s).bind fun L38 => manyK L38 fun v39 s40 =>
 ((dOps (H := H) Try.prog).extract v39 0).bind fun v41 =>
 ((dOps (H := H) Try.prog).extract v39 1).bind fun v42 =>
 ((dOps (H := H) Try.prog).extract v39 2).bind fun v43 =>
 ((dOps (H := H) Try.prog).bop .neq 26 v43 (Go.Value.int Go.IntKind.i64 0)).bind fun v44 =>
 ((dOps (H := H) Try.prog).boolO v44).bind fun b45 => cond b45 (
 some [(.tuple #[(fzV 2 #[]), (Go.Value.int Go.IntKind.i64 0), v43], s40)]) (
 ((dOps (H := H) Try.prog).bop .gtr 70 v41 (Go.Value.int Go.IntKind.u64 16)).bind fun v46 =>
 ((dOps (H := H) Try.prog).boolO v46).bind fun b47 => cond b47 (
 some [(.tuple #[(fzV 2 #[]), (Go.Value.int Go.IntKind.i64 0), (Go.Value.int Go.IntKind.i64 40)], s40)]) (
 ((dOps (H := H) Try.prog).conv false s40 70 3 v41).bind fun p48 =>
 iter (fun t s k => exec Try.prog false C n 25 none (cdp Try.f25 [1, 1, 1, 1, 0, 1, 0, 0]) t s k) (scratch (cdp Try.f25 [1, 1, 1, 1, 0, 1, 0, 0])) n (f25_l0_m a0 v41 v43 v39 a0 a1 v39 v41 v42 v43 v44 v43 v44 v46 v41 v46 v41 p48.1 (v42, (fzV 2 #[]), (Go.Value.int Go.IntKind.i64 0), (Go.Value.int Go.IntKind.i64 0), (fzV 2 #[]), undefV, undefV, (Go.Value.int Go.IntKind.i64 0))) p48.2 (kBlock 1 (kSeq Try.prog false C n 25 none (cdp Try.f25 [1, 1, 1, 1, 1]) (kFun Try.prog Try.f25))))) := by kernel_rfl
  rw [h1]
  simp only [f25_l0_e, f25_l0_k]
  show _ = f25 (dOps (H := H) Try.prog) C n a0 a1 s
  kernel_rfl
/-! tidepole/tidepolebase.SameBytes -/
noncomputable def f26 (O : Ops H) (C : OracleJ H) (n : Nat) (a0 : Value) (a1 : Value) (s : St H) : Option (List (Value × St H)) :=
 (O.conv false s 35 9 a0).bind fun p1 =>
 (O.conv false p1.2 35 9 a1).bind fun p2 =>
 (O.bop .eql 9 p1.1 p2.1).bind fun v3 =>
 some [(v3, p2.2)]
theorem f26_r (C : OracleJ H) (n : Nat) (a0 : Value) (a1 : Value) (s : St H) : bodyD Try.prog false C n 26 Try.f26 [a0, a1] s = f26 (dOps (H := H) Try.prog) C n a0 a1 s := by kernel_rfl
/-! tidepole/tidepolelaw19.few -/
def f39_l1_m (i0 : Value) (i1 : Value) (i2 : Value) (i3 : Value) (i4 : Value) (i8 : Value) (i9 : Value) (i10 : Value) (i11 : Value) (i12 : Value) (i13 : Value) (i14 : Value) (i15 : Value) (i16 : Value) (i17 : Value) (i18 : Value) (i19 : Value) (i20 : Value) (i23 : Value) (x : Value × Value) : List Value := [i0, i1, i2, i3, i4, x.1, x.2, dc, i8, i9, i10, i11, i12, i13, i14, i15, i16, i17, i18, i19, i20, dc, dc, i23, dc, dc, dc, dc, dc, dc, dc, dc, dc, dc, dc, dc, dc, dc, dc, dc, dc, dc, dc, dc, dc, dc, dc, dc, dc, dc, dc, dc, dc, dc, dc, dc, dc, dc, dc, dc, dc, dc, dc, dc, dc, dc, dc, dc, dc, dc, dc, dc, dc, dc, dc, dc, dc, dc, dc, undefV, undefV, undefV, undefV, undefV, undefV, undefV, undefV, undefV, undefV, undefV, undefV, undefV, undefV, undefV, undefV, undefV, undefV, undefV, undefV, undefV, undefV, undefV, undefV, undefV, undefV, undefV, undefV, undefV, undefV, undefV, undefV, undefV]
noncomputable def f39_l1 (O : Ops H) (C : OracleJ H) (n : Nat) (i1 : Value) (i4 : Value) (nx : (Value × Value) → St H → Option (List (Value × St H))) (kx : Nat → (Value × Value) → St H → Option (List (Value × St H))) (kr : (Value × Value) → St H → Option (List (Value × St H))) (x : Value × Value) (s : St H) : Option (List (Value × St H)) :=
 jn (fun (j190_36 : Value) =>
 (O.boolO j190_36).bind fun b141 => cond b141 (
 (O.fieldAddr 72 i1 1).bind fun v142 =>
 (O.load s 65 v142).bind fun v143 =>
 (O.indexAddr 65 v143 i4).bind fun v144 =>
 (O.fieldAddr 135 v144 1).bind fun v145 =>
 (O.load s 23 v145).bind fun v146 =>
 (O.indexAddr 23 v146 x.2).bind fun v147 =>
 (O.load s 106 v147).bind fun v148 =>
 (O.alloc s 106).bind fun p149 =>
 (O.store p149.2 106 p149.1 v148).bind fun s150 =>
 (O.fieldAddr 106 p149.1 0).bind fun v151 =>
 (O.load s150 9 v151).bind fun v152 =>
 (O.fieldAddr 106 p149.1 0).bind fun v153 =>
 (O.load s150 9 v153).bind fun v154 =>
 (O.len s150 9 v154).bind fun v155 =>
 (O.minO v155 [(Go.Value.int Go.IntKind.i64 70)]).bind fun v156 =>
 (O.slc s150 9 v152 none (some v156) none).bind fun v157 =>
 (O.fieldAddr 106 p149.1 1).bind fun v158 =>
 (O.load s150 9 v158).bind fun v159 =>
 (O.fieldAddr 106 p149.1 1).bind fun v160 =>
 (O.load s150 9 v160).bind fun v161 =>
 (O.len s150 9 v161).bind fun v162 =>
 (O.minO v162 [(Go.Value.int Go.IntKind.i64 260)]).bind fun v163 =>
 (O.slc s150 9 v159 none (some v163) none).bind fun v164 =>
 (O.build 106 [(0, v157), (1, v164)]).bind fun v165 =>
 (O.buildSlice false s150 23 1 [(0, v165)]).bind fun p166 =>
 (O.append false p166.2 23 23 x.1 p166.1).bind fun p167 =>
 (O.bop .add 3 x.2 (Go.Value.int Go.IntKind.i64 1)).bind fun v168 =>
 nx (p167.1, v168) p167.2) (
 kx 2 (x.1, x.2) s)) fun k190 =>
 (O.fieldAddr 72 i1 1).bind fun v105 =>
 (O.load s 65 v105).bind fun v106 =>
 (O.indexAddr 65 v106 i4).bind fun v107 =>
 (O.fieldAddr 135 v107 1).bind fun v108 =>
 (O.load s 23 v108).bind fun v109 =>
 (O.len s 23 v109).bind fun v110 =>
 (O.bop .lss 3 x.2 v110).bind fun v111 =>
 gd v111 (
 (O.bop .lss 3 x.2 (Go.Value.int Go.IntKind.i64 18)).bind fun v112 =>
 k190 v112) (
 k190 (.bool false)) (
 none)
theorem f39_l1_b (C : OracleJ H) (n : Nat) (i0 : Value) (i1 : Value) (i2 : Value) (i3 : Value) (i4 : Value) (i8 : Value) (i9 : Value) (i10 : Value) (i11 : Value) (i12 : Value) (i13 : Value) (i14 : Value) (i15 : Value) (i16 : Value) (i17 : Value) (i18 : Value) (i19 : Value) (i20 : Value) (i23 : Value) (x : Value × Value) (s : St H) (nx : List Value → St H → Option (List (Value × St H))) (K : Ex → List Value → St H → Option (List (Value × St H))) :
 exec Try.prog false C n 39 none (cdp Try.f39 [1, 1, 1, 0, 1, 0, 0, 1, 0, 0, 1, 0, 1, 0, 0]) (f39_l1_m i0 i1 i2 i3 i4 i8 i9 i10 i11 i12 i13 i14 i15 i16 i17 i18 i19 i20 i23 x) s (kIter (scratch (cdp Try.f39 [1, 1, 1, 0, 1, 0, 0, 1, 0, 0, 1, 0, 1, 0, 0])) nx K) = f39_l1 (dOps (H := H) Try.prog) C n i1 i4 (fun x s => nx (f39_l1_m i0 i1 i2 i3 i4 i8 i9 i10 i11 i12 i13 i14 i15 i16 i17 i18 i19 i20 i23 x) s) (fun i x s => K (.exit i) (f39_l1_m i0 i1 i2 i3 i4 i8 i9 i10 i11 i12 i13 i14 i15 i16 i17 i18 i19 i20 i23 x) s) (fun x s => K .ret (f39_l1_m i0 i1 i2 i3 i4 i8 i9 i10 i11 i12 i13 i14 i15 i16 i17 i18 i19 i20 i23 x) s) x s := by kernel_rfl
theorem f39_l1_e (C : OracleJ H) (n : Nat) (i0 : Value) (i1 : Value) (i2 : Value) (i3 : Value) (i4 : Value) (i8 : Value) (i9 : Value) (i10 : Value) (i11 : Value) (i12 : Value) (i13 : Value) (i14 : Value) (i15 : Value) (i16 : Value) (i17 : Value) (i18 : Value) (i19 : Value) (i20 : Value) (i23 : Value) (m : Nat) (x : Value × Value) (s : St H) (K : Ex → List Value → St H → Option (List (Value × St H))) :
 iter (fun t s k => exec Try.prog false C n 39 none (cdp Try.f39 [1, 1, 1, 0, 1, 0, 0, 1, 0, 0, 1, 0, 1, 0, 0]) t s k) (scratch (cdp Try.f39 [1, 1, 1, 0, 1, 0, 0, 1, 0, 0, 1, 0, 1, 0, 0])) m (f39_l1_m i0 i1 i2 i3 i4 i8 i9 i10 i11 i12 i13 i14 i15 i16 i17 i18 i19 i20 i23 x) s K = iterS (f39_l1 (dOps (H := H) Try.prog) C n i1 i4) (fun i x s => K (.exit i) (f39_l1_m i0 i1 i2 i3 i4 i8 i9 i10 i11 i12 i13 i14 i15 i16 i17 i18 i19 i20 i23 x) s) (fun x s => K .ret (f39_l1_m i0 i1 i2 i3 i4 i8 i9 i10 i11 i12 i13 i14 i15 i16 i17 i18 i19 i20 i23 x) s) m x s :=
   iter_eq (f39_l1_m i0 i1 i2 i3 i4 i8 i9 i10 i11 i12 i13 i14 i15 i16 i17 i18 i19 i20 i23) (f39_l1 (dOps (H := H) Try.prog) C n i1 i4) (fun x s nx K => f39_l1_b C n i0 i1 i2 i3 i4 i8 i9 i10 i11 i12 i13 i14 i15 i16 i17 i18 i19 i20 i23 x s nx K) K m x s
def f39_l0_m (i0 : Value) (i1 : Value) (i2 : Value) (i3 : Value) (i8 : Value) (i9 : Value) (i10 : Value) (i11 : Value) (x : Value × Value × Value) : List Value := [i0, i1, i2, i3, x.1, x.2.1, x.2.2, dc, i8, i9, i10, i11, dc, dc, dc, dc, dc, dc, dc, dc, dc, dc, dc, dc, dc, dc, dc, dc, dc, dc, dc, dc, dc, dc, dc, dc, dc, dc, dc, dc, dc, dc, dc, dc, dc, dc, dc, dc, dc, dc, dc, dc, dc, dc, dc, dc, dc, dc, dc, dc, dc, dc, dc, dc, dc, dc, dc, dc, dc, dc, dc, dc, dc, dc, dc, dc, dc, dc, dc, undefV, undefV, undefV, undefV, undefV, undefV, undefV, undefV, undefV, undefV, undefV, undefV, undefV, undefV, undefV, undefV, undefV, undefV, undefV, undefV, undefV, undefV, undefV, undefV, undefV, undefV, undefV, undefV, undefV, undefV, undefV, undefV, undefV]
noncomputable def f39_l0 (O : Ops H) (C : OracleJ H) (n : Nat) (i1 : Value) (i3 : Value) (nx : (Value × Value × Value) → St H → Option (List (Value × St H))) (kx : Nat → (Value × Value × Value) → St H → Option (List (Value × St H))) (kr : (Value × Value × Value) → St H → Option (List (Value × St H))) (x : Value × Value × Value) (s : St H) : Option (List (Value × St H)) :=
 jn (fun (j164_20 : Value) =>
 (O.boolO j164_20).bind fun b103 => cond b103 (
 (O.buildSlice false s 23 0 []).bind fun p104 =>
 iterS (f39_l1 O C n i1 x.1 )
 (fun i169 x170 s171 => (bif Nat.beq i169 2 then
 (O.fieldAddr 72 i3 1).bind fun v174 =>
 (O.load s171 65 v174).bind fun v175 =>
 (O.fieldAddr 72 i1 1).bind fun v176 =>
 (O.load s171 65 v176).bind fun v177 =>
 (O.indexAddr 65 v177 x.1).bind fun v178 =>
 (O.fieldAddr 135 v178 0).bind fun v179 =>
 (O.load s171 70 v179).bind fun v180 =>
 (O.build 135 [(0, v180), (1, x170.1)]).bind fun v181 =>
 (O.buildSlice false s171 65 1 [(0, v181)]).bind fun p182 =>
 (O.append false p182.2 65 65 v175 p182.1).bind fun p183 =>
 (O.fieldAddr 72 i3 1).bind fun v184 =>
 (O.store p183.2 65 v184 p183.1).bind fun s185 =>
 (O.bop .add 3 x.1 (Go.Value.int Go.IntKind.i64 1)).bind fun v188 =>
 nx (v188, x170.1, x170.2) s185 else (bif Nat.beq i169 1 then
 (O.bop .add 3 x.1 (Go.Value.int Go.IntKind.i64 1)).bind fun v187 =>
 nx (v187, x170.1, x170.2) s171 else kx i169 (x.1, x170.1, x170.2) s171)))
 (fun x172 s173 => kr (x.1, x172.1, x172.2) s173) n (p104.1, (Go.Value.int Go.IntKind.i64 0)) p104.2) (
 kx 0 (x.1, x.2.1, x.2.2) s)) fun k164 =>
 (O.fieldAddr 72 i1 1).bind fun v12 =>
 (O.load s 65 v12).bind fun v13 =>
 (O.len s 65 v13).bind fun v14 =>
 (O.bop .lss 3 x.1 v14).bind fun v15 =>
 gd v15 (
 (O.bop .lss 3 x.1 (Go.Value.int Go.IntKind.i64 20)).bind fun v16 =>
 k164 v16) (
 k164 (.bool false)) (
 none)
theorem f39_l1_k (C : OracleJ H) (n : Nat) (i0 : Value) (i1 : Value) (i2 : Value) (i3 : Value) (i4 : Value) (i8 : Value) (i9 : Value) (i10 : Value) (i11 : Value) (i12 : Value) (i13 : Value) (i14 : Value) (i15 : Value) (i16 : Value) (i17 : Value) (i18 : Value) (i19 : Value) (i20 : Value) (i23 : Value) (nx : List Value → St H → Option (List (Value × St H))) (K : Ex → List Value → St H → Option (List (Value × St H))) (i : Nat) (x : Value × Value) (s : St H) : (kBlock 2 (kSeq Try.prog false C n 39 none (cdp Try.f39 [1, 1, 1, 0, 1, 0, 0, 1, 0, 0, 1, 1]) (kBlock 1 (kSeq Try.prog false C n 39 none (cdp Try.f39 [1, 1, 1, 0, 1, 0, 0, 1, 1]) (kIter (scratch (cdp Try.f39 [1, 1, 1, 0, 1, 0, 0])) nx K))))) (.exit i) (f39_l1_m i0 i1 i2 i3 i4 i8 i9 i10 i11 i12 i13 i14 i15 i16 i17 i18 i19 i20 i23 x) s =
 (bif Nat.beq i 2 then
 ((dOps (H := H) Try.prog).fieldAddr 72 i3 1).bind fun v212 =>
 ((dOps (H := H) Try.prog).load s 65 v212).bind fun v213 =>
 ((dOps (H := H) Try.prog).fieldAddr 72 i1 1).bind fun v214 =>
 ((dOps (H := H) Try.prog).load s 65 v214).bind fun v215 =>
 ((dOps (H := H) Try.prog).indexAddr 65 v215 i4).bind fun v216 =>
 ((dOps (H := H) Try.prog).fieldAddr 135 v216 0).bind fun v217 =>
 ((dOps (H := H) Try.prog).load s 70 v217).bind fun v218 =>
 ((dOps (H := H) Try.prog).build 135 [(0, v218), (1, x.1)]).bind fun v219 =>
 ((dOps (H := H) Try.prog).buildSlice false s 65 1 [(0, v219)]).bind fun p220 =>
 ((dOps (H := H) Try.prog).append false p220.2 65 65 v213 p220.1).bind fun p221 =>
 ((dOps (H := H) Try.prog).fieldAddr 72 i3 1).bind fun v222 =>
 ((dOps (H := H) Try.prog).store p221.2 65 v222 p221.1).bind fun s223 =>
 ((dOps (H := H) Try.prog).bop .add 3 i4 (Go.Value.int Go.IntKind.i64 1)).bind fun v224 =>
 nx (f39_l0_m i0 i1 i2 i3 i8 i9 i10 i11 (v224, x.1, x.2)) s223 else (bif Nat.beq i 1 then
 ((dOps (H := H) Try.prog).bop .add 3 i4 (Go.Value.int Go.IntKind.i64 1)).bind fun v225 =>
 nx (f39_l0_m i0 i1 i2 i3 i8 i9 i10 i11 (v225, x.1, x.2)) s else K (.exit i) (f39_l0_m i0 i1 i2 i3 i8 i9 i10 i11 (i4, x.1, x.2)) s)) := by kernel_rfl
theorem f39_l0_b (C : OracleJ H) (n : Nat) (i0 : Value) (i1 : Value) (i2 : Value) (i3 : Value) (i8 : Value) (i9 : Value) (i10 : Value) (i11 : Value) (x : Value × Value × Value) (s : St H) (nx : List Value → St H → Option (List (Value × St H))) (K : Ex → List Value → St H → Option (List (Value × St H))) :
 exec Try.prog false C n 39 none (cdp Try.f39 [1, 1, 1, 0, 1, 0, 0]) (f39_l0_m i0 i1 i2 i3 i8 i9 i10 i11 x) s (kIter (scratch (cdp Try.f39 [1, 1, 1, 0, 1, 0, 0])) nx K) = f39_l0 (dOps (H := H) Try.prog) C n i1 i3 (fun x s => nx (f39_l0_m i0 i1 i2 i3 i8 i9 i10 i11 x) s) (fun i x s => K (.exit i) (f39_l0_m i0 i1 i2 i3 i8 i9 i10 i11 x) s) (fun x s => K .ret (f39_l0_m i0 i1 i2 i3 i8 i9 i10 i11 x) s) x s := by
  have h1 : exec Try.prog false C n 39 none (cdp Try.f39 [1, 1, 1, 0, 1, 0, 0]) (f39_l0_m i0 i1 i2 i3 i8 i9 i10 i11 x) s (kIter (scratch (cdp Try.f39 [1, 1, 1, 0, 1, 0, 0])) nx K) =
 jn (fun (j205_13 : Value) (j205_14 : Value) (j205_15 : Value) (j205_16 : Value) (j205_17 : Value) (j205_18 : Value) (j205_19 : Value) (j205_20 : Value) =>
 ((dOps (H := H) Try.prog).boolO j205_20).bind fun b196 => cond b196 (
 ((dOps (H := H) Try.prog).buildSlice false s 23 0 []).bind fun p197 =>
 iter (fun t s k => exec Try.prog false C n 39 none (cdp Try.f39 [1, 1, 1, 0, 1, 0, 0, 1, 0, 0, 1, 0, 1, 0, 0]) t s k) (scratch (cdp Try.f39 [1, 1, 1, 0, 1, 0, 0, 1, 0, 0, 1, 0, 1, 0, 0])) n (f39_l1_m i0 i1 i2 i3 x.1 i8 i9 i10 i11 x.1 j205_13 j205_14 j205_15 j205_16 j205_17 j205_18 j205_19 j205_20 p197.1 (p197.1, (Go.Value.int Go.IntKind.i64 0))) p197.2 (kBlock 2 (kSeq Try.prog false C n 39 none (cdp Try.f39 [1, 1, 1, 0, 1, 0, 0, 1, 0, 0, 1, 1]) (kBlock 1 (kSeq Try.prog false C n 39 none (cdp Try.f39 [1, 1, 1, 0, 1, 0, 0, 1, 1]) (kIter (scratch (cdp Try.f39 [1, 1, 1, 0, 1, 0, 0])) nx K)))))) (
 K (.exit 0) (f39_l0_m i0 i1 i2 i3 i8 i9 i10 i11 (x.1, x.2.1, x.2.2)) s)) fun k205 =>
 ((dOps (H := H) Try.prog).fieldAddr 72 i1 1).bind fun v189 =>
 ((dOps (H := H) Try.prog).load s 65 v189).bind fun v190 =>
 ((dOps (H := H) Try.prog).len s 65 v190).bind fun v191 =>
 ((dOps (H := H) Try.prog).bop .lss 3 x.1 v191).bind fun v192 =>
 gd v192 (
 ((dOps (H := H) Try.prog).bop .lss 3 x.1 (Go.Value.int Go.IntKind.i64 20)).bind fun v193 =>
 k205 v189 v190 v191 v192 (.bool true) x.1 v193 v193) (
 k205 v189 v190 v191 v192 (.bool false) undefV undefV (.bool false)) (
 none) := by kernel_rfl
  rw [h1]
  simp only [f39_l1_e, f39_l1_k]
  show _ = f39_l0 (dOps (H := H) Try.prog) C n i1 i3 (fun x s => nx (f39_l0_m i0 i1 i2 i3 i8 i9 i10 i11 x) s) (fun i x s => K (.exit i) (f39_l0_m i0 i1 i2 i3 i8 i9 i10 i11 x) s) (fun x s => K .ret (f39_l0_m i0 i1 i2 i3 i8 i9 i10 i11 x) s) x s
  kernel_rfl
theorem f39_l0_e (C : OracleJ H) (n : Nat) (i0 : Value) (i1 : Value) (i2 : Value) (i3 : Value) (i8 : Value) (i9 : Value) (i10 : Value) (i11 : Value) (m : Nat) (x : Value × Value × Value) (s : St H) (K : Ex → List Value → St H → Option (List (Value × St H))) :
 iter (fun t s k => exec Try.prog false C n 39 none (cdp Try.f39 [1, 1, 1, 0, 1, 0, 0]) t s k) (scratch (cdp Try.f39 [1, 1, 1, 0, 1, 0, 0])) m (f39_l0_m i0 i1 i2 i3 i8 i9 i10 i11 x) s K = iterS (f39_l0 (dOps (H := H) Try.prog) C n i1 i3) (fun i x s => K (.exit i) (f39_l0_m i0 i1 i2 i3 i8 i9 i10 i11 x) s) (fun x s => K .ret (f39_l0_m i0 i1 i2 i3 i8 i9 i10 i11 x) s) m x s :=
   iter_eq (f39_l0_m i0 i1 i2 i3 i8 i9 i10 i11) (f39_l0 (dOps (H := H) Try.prog) C n i1 i3) (fun x s nx K => f39_l0_b C n i0 i1 i2 i3 i8 i9 i10 i11 x s nx K) K m x s
noncomputable def f39 (O : Ops H) (C : OracleJ H) (n : Nat) (a0 : Value) (s : St H) : Option (List (Value × St H)) :=
 (O.box s a0).bind fun p1 =>
 (O.alloc p1.2 72).bind fun p2 =>
 (O.load p2.2 72 p1.1).bind fun v3 =>
 (O.alloc p2.2 72).bind fun p4 =>
 (O.store p4.2 72 p4.1 v3).bind fun s5 =>
 (O.fieldAddr 72 p4.1 1).bind fun v6 =>
 (O.store s5 65 v6 (fzV 2 #[])).bind fun s7 =>
 (O.fieldAddr 72 p4.1 2).bind fun v8 =>
 (O.store s7 66 v8 (fzV 2 #[])).bind fun s9 =>
 (O.fieldAddr 72 p4.1 3).bind fun v10 =>
 (O.store s9 67 v10 (fzV 2 #[])).bind fun s11 =>
 iterS (f39_l0 O C n p1.1 p4.1 )
 (fun i226 x227 s228 => (bif Nat.beq i226 0 then
 (O.fieldAddr 72 p4.1 2).bind fun v232 =>
 (O.load s228 66 v232).bind fun v233 =>
 (O.fieldAddr 72 p1.1 2).bind fun v234 =>
 (O.load s228 66 v234).bind fun v235 =>
 (O.fieldAddr 72 p1.1 2).bind fun v236 =>
 (O.load s228 66 v236).bind fun v237 =>
 (O.len s228 66 v237).bind fun v238 =>
 (O.minO v238 [(Go.Value.int Go.IntKind.i64 60)]).bind fun v239 =>
 (O.slc s228 66 v235 none (some v239) none).bind fun v240 =>
 (O.append false s228 66 66 v233 v240).bind fun p241 =>
 (O.fieldAddr 72 p4.1 2).bind fun v242 =>
 (O.store p241.2 66 v242 p241.1).bind fun s243 =>
 (O.fieldAddr 72 p1.1 2).bind fun v244 =>
 (O.load s243 66 v244).bind fun v245 =>
 (O.len s243 66 v245).bind fun v246 =>
 (O.bop .gtr 3 v246 (Go.Value.int Go.IntKind.i64 4096)).bind fun v247 =>
 jn (fun (js224 : St H) =>
 (O.fieldAddr 72 p4.1 3).bind fun v271 =>
 (O.load js224 67 v271).bind fun v272 =>
 (O.fieldAddr 72 p1.1 3).bind fun v273 =>
 (O.load js224 67 v273).bind fun v274 =>
 (O.fieldAddr 72 p1.1 3).bind fun v275 =>
 (O.load js224 67 v275).bind fun v276 =>
 (O.len js224 67 v276).bind fun v277 =>
 (O.minO v277 [(Go.Value.int Go.IntKind.i64 60)]).bind fun v278 =>
 (O.slc js224 67 v274 none (some v278) none).bind fun v279 =>
 (O.append false js224 67 67 v272 v279).bind fun p280 =>
 (O.fieldAddr 72 p4.1 3).bind fun v281 =>
 (O.store p280.2 67 v281 p280.1).bind fun s282 =>
 (O.load s282 72 p4.1).bind fun v283 =>
 (O.store s282 72 p2.1 v283).bind fun s284 =>
 (O.load s284 72 p2.1).bind fun v285 => some [(v285, s284)]) fun k224 =>
 (O.boolO v247).bind fun b248 => cond b248 (
 (O.buildSlice false s243 66 0 []).bind fun p249 =>
 (O.fieldAddr 72 p1.1 2).bind fun v250 =>
 (O.load p249.2 66 v250).bind fun v251 =>
 (O.slc p249.2 66 v251 none (some (Go.Value.int Go.IntKind.i64 4097)) none).bind fun v252 =>
 (O.append false p249.2 66 66 p249.1 v252).bind fun p253 =>
 (O.fieldAddr 72 p4.1 2).bind fun v254 =>
 (O.store p253.2 66 v254 p253.1).bind fun s255 =>
 k224 s255) (
 k224 s243) else none))
 (fun x229 s230 => (O.load s230 72 p2.1).bind fun v231 => some [(v231, s230)]) n ((Go.Value.int Go.IntKind.i64 0), undefV, undefV) s11
theorem f39_l0_k (C : OracleJ H) (n : Nat) (i0 : Value) (i1 : Value) (i2 : Value) (i3 : Value) (i8 : Value) (i9 : Value) (i10 : Value) (i11 : Value) (i : Nat) (x : Value × Value × Value) (s : St H) : (kBlock 0 (kSeq Try.prog false C n 39 none (cdp Try.f39 [1, 1, 1, 1]) (kFun Try.prog Try.f39))) (.exit i) (f39_l0_m i0 i1 i2 i3 i8 i9 i10 i11 x) s =
 (bif Nat.beq i 0 then
 ((dOps (H := H) Try.prog).fieldAddr 72 i3 2).bind fun v351 =>
 ((dOps (H := H) Try.prog).load s 66 v351).bind fun v352 =>
 ((dOps (H := H) Try.prog).fieldAddr 72 i1 2).bind fun v353 =>
 ((dOps (H := H) Try.prog).load s 66 v353).bind fun v354 =>
 ((dOps (H := H) Try.prog).fieldAddr 72 i1 2).bind fun v355 =>
 ((dOps (H := H) Try.prog).load s 66 v355).bind fun v356 =>
 ((dOps (H := H) Try.prog).len s 66 v356).bind fun v357 =>
 ((dOps (H := H) Try.prog).minO v357 [(Go.Value.int Go.IntKind.i64 60)]).bind fun v358 =>
 ((dOps (H := H) Try.prog).slc s 66 v354 none (some v358) none).bind fun v359 =>
 ((dOps (H := H) Try.prog).append false s 66 66 v352 v359).bind fun p360 =>
 ((dOps (H := H) Try.prog).fieldAddr 72 i3 2).bind fun v361 =>
 ((dOps (H := H) Try.prog).store p360.2 66 v361 p360.1).bind fun s362 =>
 ((dOps (H := H) Try.prog).fieldAddr 72 i1 2).bind fun v363 =>
 ((dOps (H := H) Try.prog).load s362 66 v363).bind fun v364 =>
 ((dOps (H := H) Try.prog).len s362 66 v364).bind fun v365 =>
 ((dOps (H := H) Try.prog).bop .gtr 3 v365 (Go.Value.int Go.IntKind.i64 4096)).bind fun v366 =>
 jn (fun (js245 : St H) =>
 ((dOps (H := H) Try.prog).fieldAddr 72 i3 3).bind fun v390 =>
 ((dOps (H := H) Try.prog).load js245 67 v390).bind fun v391 =>
 ((dOps (H := H) Try.prog).fieldAddr 72 i1 3).bind fun v392 =>
 ((dOps (H := H) Try.prog).load js245 67 v392).bind fun v393 =>
 ((dOps (H := H) Try.prog).fieldAddr 72 i1 3).bind fun v394 =>
 ((dOps (H := H) Try.prog).load js245 67 v394).bind fun v395 =>
 ((dOps (H := H) Try.prog).len js245 67 v395).bind fun v396 =>
 ((dOps (H := H) Try.prog).minO v396 [(Go.Value.int Go.IntKind.i64 60)]).bind fun v397 =>
 ((dOps (H := H) Try.prog).slc js245 67 v393 none (some v397) none).bind fun v398 =>
 ((dOps (H := H) Try.prog).append false js245 67 67 v391 v398).bind fun p399 =>
 ((dOps (H := H) Try.prog).fieldAddr 72 i3 3).bind fun v400 =>
 ((dOps (H := H) Try.prog).store p399.2 67 v400 p399.1).bind fun s401 =>
 ((dOps (H := H) Try.prog).load s401 72 i3).bind fun v402 =>
 ((dOps (H := H) Try.prog).store s401 72 i2 v402).bind fun s403 =>
 ((dOps (H := H) Try.prog).load s403 72 i2).bind fun v404 => some [(v404, s403)]) fun k245 =>
 ((dOps (H := H) Try.prog).boolO v366).bind fun b367 => cond b367 (
 ((dOps (H := H) Try.prog).buildSlice false s362 66 0 []).bind fun p368 =>
 ((dOps (H := H) Try.prog).fieldAddr 72 i1 2).bind fun v369 =>
 ((dOps (H := H) Try.prog).load p368.2 66 v369).bind fun v370 =>
 ((dOps (H := H) Try.prog).slc p368.2 66 v370 none (some (Go.Value.int Go.IntKind.i64 4097)) none).bind fun v371 =>
 ((dOps (H := H) Try.prog).append false p368.2 66 66 p368.1 v371).bind fun p372 =>
 ((dOps (H := H) Try.prog).fieldAddr 72 i3 2).bind fun v373 =>
 ((dOps (H := H) Try.prog).store p372.2 66 v373 p372.1).bind fun s374 =>
 k245 s374) (
 k245 s362) else none) := by kernel_rfl
theorem f39_r (C : OracleJ H) (n : Nat) (a0 : Value) (s : St H) : bodyD Try.prog false C n 39 Try.f39 [a0] s = f39 (dOps (H := H) Try.prog) C n a0 s := by
  have h1 : bodyD Try.prog false C n 39 Try.f39 [a0] s =
 ((dOps (H := H) Try.prog).box s a0).bind fun p286 =>
 ((dOps (H := H) Try.prog).alloc p286.2 72).bind fun p287 =>
 ((dOps (H := H) Try.prog).load p287.2 72 p286.1).bind fun v288 =>
 ((dOps (H := H) Try.prog).alloc p287.2 72).bind fun p289 =>
 ((dOps (H := H) Try.prog).store p289.2 72 p289.1 v288).bind fun s290 =>
 ((dOps (H := H) Try.prog).fieldAddr 72 p289.1 1).bind fun v291 =>
 ((dOps (H := H) Try.prog).store s290 65 v291 (fzV 2 #[])).bind fun s292 =>
 ((dOps (H := H) Try.prog).fieldAddr 72 p289.1 2).bind fun v293 =>
 ((dOps (H := H) Try.prog).store s292 66 v293 (fzV 2 #[])).bind fun s294 =>
 ((dOps (H := H) Try.prog).fieldAddr 72 p289.1 3).bind fun v295 =>
 ((dOps (H := H) Try.prog).store s294 67 v295 (fzV 2 #[])).bind fun s296 =>
 iter (fun t s k => exec Try.prog false C n 39 none (cdp Try.f39 [1, 1, 1, 0, 1, 0, 0]) t s k) (scratch (cdp Try.f39 [1, 1, 1, 0, 1, 0, 0])) n (f39_l0_m a0 p286.1 p287.1 p289.1 v288 v291 v293 v295 ((Go.Value.int Go.IntKind.i64 0), undefV, undefV)) s296 (kBlock 0 (kSeq Try.prog false C n 39 none (cdp Try.f39 [1, 1, 1, 1]) (kFun Try.prog Try.f39))) := by kernel_rfl
  rw [h1]
  simp only [f39_l0_e, f39_l0_k]
  show _ = f39 (dOps (H := H) Try.prog) C n a0 s
  kernel_rfl
/-! tidepole/tidepoleref19.Same -/
def f41_l0_m (i0 : Value) (i1 : Value) (i2 : Value) (i3 : Value) (i8 : Value) (i9 : Value) (i10 : Value) (i11 : Value) (i12 : Value) (i14 : Value) (i15 : Value) (i16 : Value) (i17 : Value) (i18 : Value) (i19 : Value) (i21 : Value) (i22 : Value) (i23 : Value) (i24 : Value) (i25 : Value) (i26 : Value) (i28 : Value) (i29 : Value) (i30 : Value) (i31 : Value) (i32 : Value) (i33 : Value) (i34 : Value) (i35 : Value) (i37 : Value) (i38 : Value) (i39 : Value) (i40 : Value) (i41 : Value) (i42 : Value) (i43 : Value) (i44 : Value) (i46 : Value) (i47 : Value) (i48 : Value) (i49 : Value) (i50 : Value) (i51 : Value) (i52 : Value) (i53 : Value) (x : Value × Value) : List Value := [i0, i1, i2, i3, x.1, x.2, undefV, undefV, i8, i9, i10, i11, i12, (.bool false), i14, i15, i16, i17, i18, i19, (.bool false), i21, i22, i23, i24, i25, i26, (.bool false), i28, i29, i30, i31, i32, i33, i34, i35, (.bool false), i37, i38, i39, i40, i41, i42, i43, i44, (.bool false), i46, i47, i48, i49, i50, i51, i52, i53, dc, dc, dc, dc, dc, dc, dc, dc, dc, dc, dc, dc, dc, dc, dc, dc, dc, dc, dc, dc, dc, dc, dc, dc, dc, dc, dc, dc, dc, dc, dc, dc, dc, dc, dc, dc, undefV, undefV, undefV, undefV, undefV, undefV, undefV, undefV, undefV, undefV, undefV, undefV, undefV, undefV, undefV, undefV, undefV, undefV, undefV, undefV, undefV, undefV, undefV, undefV, undefV, undefV, undefV, undefV, undefV, undefV, undefV, undefV, undefV, undefV, undefV, undefV]
noncomputable def f41_l0 (O : Ops H) (C : OracleJ H) (n : Nat) (i2 : Value) (i3 : Value) (nx : (Value × Value) → St H → Option (List (Value × St H))) (kx : Nat → (Value × Value) → St H → Option (List (Value × St H))) (kr : (Value × Value) → St H → Option (List (Value × St H))) (x : Value × Value) (s : St H) : Option (List (Value × St H)) :=
 (O.fieldAddr 72 i2 1).bind fun v46 =>
 (O.load s 65 v46).bind fun v47 =>
 (O.len s 65 v47).bind fun v48 =>
 (O.bop .lss 3 x.2 v48).bind fun v49 =>
 (O.boolO v49).bind fun b50 => cond b50 (
 (O.fieldAddr 72 i2 1).bind fun v51 =>
 (O.load s 65 v51).bind fun v52 =>
 (O.indexAddr 65 v52 x.2).bind fun v53 =>
 (O.fieldAddr 135 v53 0).bind fun v54 =>
 (O.load s 70 v54).bind fun v55 =>
 (O.fieldAddr 72 i3 1).bind fun v56 =>
 (O.load s 65 v56).bind fun v57 =>
 (O.indexAddr 65 v57 x.2).bind fun v58 =>
 (O.fieldAddr 135 v58 0).bind fun v59 =>
 (O.load s 70 v59).bind fun v60 =>
 (O.bop .neq 70 v55 v60).bind fun v61 =>
 gd v61 (
 kr ((.bool false), x.2) s) (
 (O.fieldAddr 72 i2 1).bind fun v62 =>
 (O.load s 65 v62).bind fun v63 =>
 (O.indexAddr 65 v63 x.2).bind fun v64 =>
 (O.fieldAddr 135 v64 1).bind fun v65 =>
 (O.load s 23 v65).bind fun v66 =>
 (O.fieldAddr 72 i3 1).bind fun v67 =>
 (O.load s 65 v67).bind fun v68 =>
 (O.indexAddr 65 v68 x.2).bind fun v69 =>
 (O.fieldAddr 135 v69 1).bind fun v70 =>
 (O.load s 23 v70).bind fun v71 =>
 (oneO C (.fn 21) [v66, v71] s).bind fun p72 =>
 (O.uop .not p72.1).bind fun v73 =>
 (O.boolO v73).bind fun b76 => cond b76 (
 kr ((.bool false), x.2) p72.2) (
 (O.bop .add 3 x.2 (Go.Value.int Go.IntKind.i64 1)).bind fun v77 =>
 nx (x.1, v77) p72.2)) (
 none)) (
 kx 0 (x.1, x.2) s)
theorem f41_l0_b (C : OracleJ H) (n : Nat) (i0 : Value) (i1 : Value) (i2 : Value) (i3 : Value) (i8 : Value) (i9 : Value) (i10 : Value) (i11 : Value) (i12 : Value) (i14 : Value) (i15 : Value) (i16 : Value) (i17 : Value) (i18 : Value) (i19 : Value) (i21 : Value) (i22 : Value) (i23 : Value) (i24 : Value) (i25 : Value) (i26 : Value) (i28 : Value) (i29 : Value) (i30 : Value) (i31 : Value) (i32 : Value) (i33 : Value) (i34 : Value) (i35 : Value) (i37 : Value) (i38 : Value) (i39 : Value) (i40 : Value) (i41 : Value) (i42 : Value) (i43 : Value) (i44 : Value) (i46 : Value) (i47 : Value) (i48 : Value) (i49 : Value) (i50 : Value) (i51 : Value) (i52 : Value) (i53 : Value) (x : Value × Value) (s : St H) (nx : List Value → St H → Option (List (Value × St H))) (K : Ex → List Value → St H → Option (List (Value × St H))) :
 exec Try.prog false C n 41 none (cdp Try.f41 [1, 1, 0, 1, 0, 0]) (f41_l0_m i0 i1 i2 i3 i8 i9 i10 i11 i12 i14 i15 i16 i17 i18 i19 i21 i22 i23 i24 i25 i26 i28 i29 i30 i31 i32 i33 i34 i35 i37 i38 i39 i40 i41 i42 i43 i44 i46 i47 i48 i49 i50 i51 i52 i53 x) s (kIter (scratch (cdp Try.f41 [1, 1, 0, 1, 0, 0])) nx K) = f41_l0 (dOps (H := H) Try.prog) C n i2 i3 (fun x s => nx (f41_l0_m i0 i1 i2 i3 i8 i9 i10 i11 i12 i14 i15 i16 i17 i18 i19 i21 i22 i23 i24 i25 i26 i28 i29 i30 i31 i32 i33 i34 i35 i37 i38 i39 i40 i41 i42 i43 i44 i46 i47 i48 i49 i50 i51 i52 i53 x) s) (fun i x s => K (.exit i) (f41_l0_m i0 i1 i2 i3 i8 i9 i10 i11 i12 i14 i15 i16 i17 i18 i19 i21 i22 i23 i24 i25 i26 i28 i29 i30 i31 i32 i33 i34 i35 i37 i38 i39 i40 i41 i42 i43 i44 i46 i47 i48 i49 i50 i51 i52 i53 x) s) (fun x s => K .ret (f41_l0_m i0 i1 i2 i3 i8 i9 i10 i11 i12 i14 i15 i16 i17 i18 i19 i21 i22 i23 i24 i25 i26 i28 i29 i30 i31 i32 i33 i34 i35 i37 i38 i39 i40 i41 i42 i43 i44 i46 i47 i48 i49 i50 i51 i52 i53 x) s) x s := by kernel_rfl
theorem f41_l0_e (C : OracleJ H) (n : Nat) (i0 : Value) (i1 : Value) (i2 : Value) (i3 : Value) (i8 : Value) (i9 : Value) (i10 : Value) (i11 : Value) (i12 : Value) (i14 : Value) (i15 : Value) (i16 : Value) (i17 : Value) (i18 : Value) (i19 : Value) (i21 : Value) (i22 : Value) (i23 : Value) (i24 : Value) (i25 : Value) (i26 : Value) (i28 : Value) (i29 : Value) (i30 : Value) (i31 : Value) (i32 : Value) (i33 : Value) (i34 : Value) (i35 : Value) (i37 : Value) (i38 : Value) (i39 : Value) (i40 : Value) (i41 : Value) (i42 : Value) (i43 : Value) (i44 : Value) (i46 : Value) (i47 : Value) (i48 : Value) (i49 : Value) (i50 : Value) (i51 : Value) (i52 : Value) (i53 : Value) (m : Nat) (x : Value × Value) (s : St H) (K : Ex → List Value → St H → Option (List (Value × St H))) :
 iter (fun t s k => exec Try.prog false C n 41 none (cdp Try.f41 [1, 1, 0, 1, 0, 0]) t s k) (scratch (cdp Try.f41 [1, 1, 0, 1, 0, 0])) m (f41_l0_m i0 i1 i2 i3 i8 i9 i10 i11 i12 i14 i15 i16 i17 i18 i19 i21 i22 i23 i24 i25 i26 i28 i29 i30 i31 i32 i33 i34 i35 i37 i38 i39 i40 i41 i42 i43 i44 i46 i47 i48 i49 i50 i51 i52 i53 x) s K = iterS (f41_l0 (dOps (H := H) Try.prog) C n i2 i3) (fun i x s => K (.exit i) (f41_l0_m i0 i1 i2 i3 i8 i9 i10 i11 i12 i14 i15 i16 i17 i18 i19 i21 i22 i23 i24 i25 i26 i28 i29 i30 i31 i32 i33 i34 i35 i37 i38 i39 i40 i41 i42 i43 i44 i46 i47 i48 i49 i50 i51 i52 i53 x) s) (fun x s => K .ret (f41_l0_m i0 i1 i2 i3 i8 i9 i10 i11 i12 i14 i15 i16 i17 i18 i19 i21 i22 i23 i24 i25 i26 i28 i29 i30 i31 i32 i33 i34 i35 i37 i38 i39 i40 i41 i42 i43 i44 i46 i47 i48 i49 i50 i51 i52 i53 x) s) m x s :=
   iter_eq (f41_l0_m i0 i1 i2 i3 i8 i9 i10 i11 i12 i14 i15 i16 i17 i18 i19 i21 i22 i23 i24 i25 i26 i28 i29 i30 i31 i32 i33 i34 i35 i37 i38 i39 i40 i41 i42 i43 i44 i46 i47 i48 i49 i50 i51 i52 i53) (f41_l0 (dOps (H := H) Try.prog) C n i2 i3) (fun x s nx K => f41_l0_b C n i0 i1 i2 i3 i8 i9 i10 i11 i12 i14 i15 i16 i17 i18 i19 i21 i22 i23 i24 i25 i26 i28 i29 i30 i31 i32 i33 i34 i35 i37 i38 i39 i40 i41 i42 i43 i44 i46 i47 i48 i49 i50 i51 i52 i53 x s nx K) K m x s
def f41_l1_m (i0 : Value) (i1 : Value) (i2 : Value) (i3 : Value) (i5 : Value) (i8 : Value) (i9 : Value) (i10 : Value) (i11 : Value) (i12 : Value) (i14 : Value) (i15 : Value) (i16 : Value) (i17 : Value) (i18 : Value) (i19 : Value) (i21 : Value) (i22 : Value) (i23 : Value) (i24 : Value) (i25 : Value) (i26 : Value) (i28 : Value) (i29 : Value) (i30 : Value) (i31 : Value) (i32 : Value) (i33 : Value) (i34 : Value) (i35 : Value) (i37 : Value) (i38 : Value) (i39 : Value) (i40 : Value) (i41 : Value) (i42 : Value) (i43 : Value) (i44 : Value) (i46 : Value) (i47 : Value) (i48 : Value) (i49 : Value) (i50 : Value) (i51 : Value) (i52 : Value) (i53 : Value) (x : Value × Value) : List Value := [i0, i1, i2, i3, x.1, i5, x.2, undefV, i8, i9, i10, i11, i12, (.bool false), i14, i15, i16, i17, i18, i19, (.bool false), i21, i22, i23, i24, i25, i26, (.bool false), i28, i29, i30, i31, i32, i33, i34, i35, (.bool false), i37, i38, i39, i40, i41, i42, i43, i44, (.bool false), i46, i47, i48, i49, i50, i51, i52, i53, dc, dc, dc, dc, dc, dc, dc, dc, dc, dc, dc, dc, dc, dc, dc, dc, dc, dc, dc, dc, dc, dc, dc, dc, dc, dc, dc, dc, dc, dc, dc, dc, dc, dc, dc, dc, dc, dc, dc, dc, dc, dc, dc, dc, dc, dc, dc, dc, dc, dc, dc, dc, dc, dc, undefV, undefV, undefV, undefV, undefV, undefV, undefV, undefV, undefV, undefV, undefV, undefV, undefV, undefV, undefV, undefV, undefV, undefV]
noncomputable def f41_l1 (O : Ops H) (C : OracleJ H) (n : Nat) (i2 : Value) (i3 : Value) (nx : (Value × Value) → St H → Option (List (Value × St H))) (kx : Nat → (Value × Value) → St H → Option (List (Value × St H))) (kr : (Value × Value) → St H → Option (List (Value × St H))) (x : Value × Value) (s : St H) : Option (List (Value × St H)) :=
 (O.fieldAddr 72 i2 2).bind fun v83 =>
 (O.load s 66 v83).bind fun v84 =>
 (O.len s 66 v84).bind fun v85 =>
 (O.bop .lss 3 x.2 v85).bind fun v86 =>
 (O.boolO v86).bind fun b87 => cond b87 (
 (O.fieldAddr 72 i2 2).bind fun v88 =>
 (O.load s 66 v88).bind fun v89 =>
 (O.indexAddr 66 v89 x.2).bind fun v90 =>
 (O.load s 142 v90).bind fun v91 =>
 (O.fieldAddr 72 i3 2).bind fun v92 =>
 (O.load s 66 v92).bind fun v93 =>
 (O.indexAddr 66 v93 x.2).bind fun v94 =>
 (O.load s 142 v94).bind fun v95 =>
 (O.bop .neq 142 v91 v95).bind fun v96 =>
 (O.boolO v96).bind fun b97 => cond b97 (
 kr ((.bool false), x.2) s) (
 (O.bop .add 3 x.2 (Go.Value.int Go.IntKind.i64 1)).bind fun v98 =>
 nx (x.1, v98) s)) (
 kx 2 (x.1, x.2) s)
theorem f41_l1_b (C : OracleJ H) (n : Nat) (i0 : Value) (i1 : Value) (i2 : Value) (i3 : Value) (i5 : Value) (i8 : Value) (i9 : Value) (i10 : Value) (i11 : Value) (i12 : Value) (i14 : Value) (i15 : Value) (i16 : Value) (i17 : Value) (i18 : Value) (i19 : Value) (i21 : Value) (i22 : Value) (i23 : Value) (i24 : Value) (i25 : Value) (i26 : Value) (i28 : Value) (i29 : Value) (i30 : Value) (i31 : Value) (i32 : Value) (i33 : Value) (i34 : Value) (i35 : Value) (i37 : Value) (i38 : Value) (i39 : Value) (i40 : Value) (i41 : Value) (i42 : Value) (i43 : Value) (i44 : Value) (i46 : Value) (i47 : Value) (i48 : Value) (i49 : Value) (i50 : Value) (i51 : Value) (i52 : Value) (i53 : Value) (x : Value × Value) (s : St H) (nx : List Value → St H → Option (List (Value × St H))) (K : Ex → List Value → St H → Option (List (Value × St H))) :
 exec Try.prog false C n 41 none (cdp Try.f41 [1, 1, 1, 0, 1, 0, 0]) (f41_l1_m i0 i1 i2 i3 i5 i8 i9 i10 i11 i12 i14 i15 i16 i17 i18 i19 i21 i22 i23 i24 i25 i26 i28 i29 i30 i31 i32 i33 i34 i35 i37 i38 i39 i40 i41 i42 i43 i44 i46 i47 i48 i49 i50 i51 i52 i53 x) s (kIter (scratch (cdp Try.f41 [1, 1, 1, 0, 1, 0, 0])) nx K) = f41_l1 (dOps (H := H) Try.prog) C n i2 i3 (fun x s => nx (f41_l1_m i0 i1 i2 i3 i5 i8 i9 i10 i11 i12 i14 i15 i16 i17 i18 i19 i21 i22 i23 i24 i25 i26 i28 i29 i30 i31 i32 i33 i34 i35 i37 i38 i39 i40 i41 i42 i43 i44 i46 i47 i48 i49 i50 i51 i52 i53 x) s) (fun i x s => K (.exit i) (f41_l1_m i0 i1 i2 i3 i5 i8 i9 i10 i11 i12 i14 i15 i16 i17 i18 i19 i21 i22 i23 i24 i25 i26 i28 i29 i30 i31 i32 i33 i34 i35 i37 i38 i39 i40 i41 i42 i43 i44 i46 i47 i48 i49 i50 i51 i52 i53 x) s) (fun x s => K .ret (f41_l1_m i0 i1 i2 i3 i5 i8 i9 i10 i11 i12 i14 i15 i16 i17 i18 i19 i21 i22 i23 i24 i25 i26 i28 i29 i30 i31 i32 i33 i34 i35 i37 i38 i39 i40 i41 i42 i43 i44 i46 i47 i48 i49 i50 i51 i52 i53 x) s) x s := by kernel_rfl
theorem f41_l1_e (C : OracleJ H) (n : Nat) (i0 : Value) (i1 : Value) (i2 : Value) (i3 : Value) (i5 : Value) (i8 : Value) (i9 : Value) (i10 : Value) (i11 : Value) (i12 : Value) (i14 : Value) (i15 : Value) (i16 : Value) (i17 : Value) (i18 : Value) (i19 : Value) (i21 : Value) (i22 : Value) (i23 : Value) (i24 : Value) (i25 : Value) (i26 : Value) (i28 : Value) (i29 : Value) (i30 : Value) (i31 : Value) (i32 : Value) (i33 : Value) (i34 : Value) (i35 : Value) (i37 : Value) (i38 : Value) (i39 : Value) (i40 : Value) (i41 : Value) (i42 : Value) (i43 : Value) (i44 : Value) (i46 : Value) (i47 : Value) (i48 : Value) (i49 : Value) (i50 : Value) (i51 : Value) (i52 : Value) (i53 : Value) (m : Nat) (x : Value × Value) (s : St H) (K : Ex → List Value → St H → Option (List (Value × St H))) :
 iter (fun t s k => exec Try.prog false C n 41 none (cdp Try.f41 [1, 1, 1, 0, 1, 0, 0]) t s k) (scratch (cdp Try.f41 [1, 1, 1, 0, 1, 0, 0])) m (f41_l1_m i0 i1 i2 i3 i5 i8 i9 i10 i11 i12 i14 i15 i16 i17 i18 i19 i21 i22 i23 i24 i25 i26 i28 i29 i30 i31 i32 i33 i34 i35 i37 i38 i39 i40 i41 i42 i43 i44 i46 i47 i48 i49 i50 i51 i52 i53 x) s K = iterS (f41_l1 (dOps (H := H) Try.prog) C n i2 i3) (fun i x s => K (.exit i) (f41_l1_m i0 i1 i2 i3 i5 i8 i9 i10 i11 i12 i14 i15 i16 i17 i18 i19 i21 i22 i23 i24 i25 i26 i28 i29 i30 i31 i32 i33 i34 i35 i37 i38 i39 i40 i41 i42 i43 i44 i46 i47 i48 i49 i50 i51 i52 i53 x) s) (fun x s => K .ret (f41_l1_m i0 i1 i2 i3 i5 i8 i9 i10 i11 i12 i14 i15 i16 i17 i18 i19 i21 i22 i23 i24 i25 i26 i28 i29 i30 i31 i32 i33 i34 i35 i37 i38 i39 i40 i41 i42 i43 i44 i46 i47 i48 i49 i50 i51 i52 i53 x) s) m x s :=
   iter_eq (f41_l1_m i0 i1 i2 i3 i5 i8 i9 i10 i11 i12 i14 i15 i16 i17 i18 i19 i21 i22 i23 i24 i25 i26 i28 i29 i30 i31 i32 i33 i34 i35 i37 i38 i39 i40 i41 i42 i43 i44 i46 i47 i48 i49 i50 i51 i52 i53) (f41_l1 (dOps (H := H) Try.prog) C n i2 i3) (fun x s nx K => f41_l1_b C n i0 i1 i2 i3 i5 i8 i9 i10 i11 i12 i14 i15 i16 i17 i18 i19 i21 i22 i23 i24 i25 i26 i28 i29 i30 i31 i32 i33 i34 i35 i37 i38 i39 i40 i41 i42 i43 i44 i46 i47 i48 i49 i50 i51 i52 i53 x s nx K) K m x s
def f41_l2_m (i0 : Value) (i1 : Value) (i2 : Value) (i3 : Value) (i5 : Value) (i6 : Value) (i8 : Value) (i9 : Value) (i10 : Value) (i11 : Value) (i12 : Value) (i14 : Value) (i15 : Value) (i16 : Value) (i17 : Value) (i18 : Value) (i19 : Value) (i21 : Value) (i22 : Value) (i23 : Value) (i24 : Value) (i25 : Value) (i26 : Value) (i28 : Value) (i29 : Value) (i30 : Value) (i31 : Value) (i32 : Value) (i33 : Value) (i34 : Value) (i35 : Value) (i37 : Value) (i38 : Value) (i39 : Value) (i40 : Value) (i41 : Value) (i42 : Value) (i43 : Value) (i44 : Value) (i46 : Value) (i47 : Value) (i48 : Value) (i49 : Value) (i50 : Value) (i51 : Value) (i52 : Value) (i53 : Value) (x : Value × Value) : List Value := [i0, i1, i2, i3, x.1, i5, i6, x.2, i8, i9, i10, i11, i12, (.bool false), i14, i15, i16, i17, i18, i19, (.bool false), i21, i22, i23, i24, i25, i26, (.bool false), i28, i29, i30, i31, i32, i33, i34, i35, (.bool false), i37, i38, i39, i40, i41, i42, i43, i44, (.bool false), i46, i47, i48, i49, i50, i51, i52, i53, dc, dc, dc, dc, dc, dc, dc, dc, dc, dc, dc, dc, dc, dc, dc, dc, dc, dc, dc, dc, dc, dc, dc, dc, dc, dc, dc, dc, dc, dc, dc, dc, dc, dc, dc, dc, dc, dc, dc, dc, dc, dc, dc, dc, dc, dc, dc, dc, dc, dc, dc, dc, dc, dc, dc, dc, dc, dc, dc, dc, dc, dc, dc, dc, dc, dc, dc, dc, dc, dc, dc, dc]
noncomputable def f41_l2 (O : Ops H) (C : OracleJ H) (n : Nat) (i2 : Value) (i3 : Value) (nx : (Value × Value) → St H → Option (List (Value × St H))) (kx : Nat → (Value × Value) → St H → Option (List (Value × St H))) (kr : (Value × Value) → St H → Option (List (Value × St H))) (x : Value × Value) (s : St H) : Option (List (Value × St H)) :=
 (O.fieldAddr 72 i2 3).bind fun v104 =>
 (O.load s 67 v104).bind fun v105 =>
 (O.len s 67 v105).bind fun v106 =>
 (O.bop .lss 3 x.2 v106).bind fun v107 =>
 (O.boolO v107).bind fun b108 => cond b108 (
 (O.fieldAddr 72 i2 3).bind fun v109 =>
 (O.load s 67 v109).bind fun v110 =>
 (O.indexAddr 67 v110 x.2).bind fun v111 =>
 (O.load s 70 v111).bind fun v112 =>
 (O.fieldAddr 72 i3 3).bind fun v113 =>
 (O.load s 67 v113).bind fun v114 =>
 (O.indexAddr 67 v114 x.2).bind fun v115 =>
 (O.load s 70 v115).bind fun v116 =>
 (O.bop .neq 70 v112 v116).bind fun v117 =>
 (O.boolO v117).bind fun b118 => cond b118 (
 kr ((.bool false), x.2) s) (
 (O.bop .add 3 x.2 (Go.Value.int Go.IntKind.i64 1)).bind fun v119 =>
 nx (x.1, v119) s)) (
 kx 4 (x.1, x.2) s)
theorem f41_l2_b (C : OracleJ H) (n : Nat) (i0 : Value) (i1 : Value) (i2 : Value) (i3 : Value) (i5 : Value) (i6 : Value) (i8 : Value) (i9 : Value) (i10 : Value) (i11 : Value) (i12 : Value) (i14 : Value) (i15 : Value) (i16 : Value) (i17 : Value) (i18 : Value) (i19 : Value) (i21 : Value) (i22 : Value) (i23 : Value) (i24 : Value) (i25 : Value) (i26 : Value) (i28 : Value) (i29 : Value) (i30 : Value) (i31 : Value) (i32 : Value) (i33 : Value) (i34 : Value) (i35 : Value) (i37 : Value) (i38 : Value) (i39 : Value) (i40 : Value) (i41 : Value) (i42 : Value) (i43 : Value) (i44 : Value) (i46 : Value) (i47 : Value) (i48 : Value) (i49 : Value) (i50 : Value) (i51 : Value) (i52 : Value) (i53 : Value) (x : Value × Value) (s : St H) (nx : List Value → St H → Option (List (Value × St H))) (K : Ex → List Value → St H → Option (List (Value × St H))) :
 exec Try.prog false C n 41 none (cdp Try.f41 [1, 1, 1, 1, 0, 1, 0, 0]) (f41_l2_m i0 i1 i2 i3 i5 i6 i8 i9 i10 i11 i12 i14 i15 i16 i17 i18 i19 i21 i22 i23 i24 i25 i26 i28 i29 i30 i31 i32 i33 i34 i35 i37 i38 i39 i40 i41 i42 i43 i44 i46 i47 i48 i49 i50 i51 i52 i53 x) s (kIter (scratch (cdp Try.f41 [1, 1, 1, 1, 0, 1, 0, 0])) nx K) = f41_l2 (dOps (H := H) Try.prog) C n i2 i3 (fun x s => nx (f41_l2_m i0 i1 i2 i3 i5 i6 i8 i9 i10 i11 i12 i14 i15 i16 i17 i18 i19 i21 i22 i23 i24 i25 i26 i28 i29 i30 i31 i32 i33 i34 i35 i37 i38 i39 i40 i41 i42 i43 i44 i46 i47 i48 i49 i50 i51 i52 i53 x) s) (fun i x s => K (.exit i) (f41_l2_m i0 i1 i2 i3 i5 i6 i8 i9 i10 i11 i12 i14 i15 i16 i17 i18 i19 i21 i22 i23 i24 i25 i26 i28 i29 i30 i31 i32 i33 i34 i35 i37 i38 i39 i40 i41 i42 i43 i44 i46 i47 i48 i49 i50 i51 i52 i53 x) s) (fun x s => K .ret (f41_l2_m i0 i1 i2 i3 i5 i6 i8 i9 i10 i11 i12 i14 i15 i16 i17 i18 i19 i21 i22 i23 i24 i25 i26 i28 i29 i30 i31 i32 i33 i34 i35 i37 i38 i39 i40 i41 i42 i43 i44 i46 i47 i48 i49 i50 i51 i52 i53 x) s) x s := by kernel_rfl
theorem f41_l2_e (C : OracleJ H) (n : Nat) (i0 : Value) (i1 : Value) (i2 : Value) (i3 : Value) (i5 : Value) (i6 : Value) (i8 : Value) (i9 : Value) (i10 : Value) (i11 : Value) (i12 : Value) (i14 : Value) (i15 : Value) (i16 : Value) (i17 : Value) (i18 : Value) (i19 : Value) (i21 : Value) (i22 : Value) (i23 : Value) (i24 : Value) (i25 : Value) (i26 : Value) (i28 : Value) (i29 : Value) (i30 : Value) (i31 : Value) (i32 : Value) (i33 : Value) (i34 : Value) (i35 : Value) (i37 : Value) (i38 : Value) (i39 : Value) (i40 : Value) (i41 : Value) (i42 : Value) (i43 : Value) (i44 : Value) (i46 : Value) (i47 : Value) (i48 : Value) (i49 : Value) (i50 : Value) (i51 : Value) (i52 : Value) (i53 : Value) (m : Nat) (x : Value × Value) (s : St H) (K : Ex → List Value → St H → Option (List (Value × St H))) :
 iter (fun t s k => exec Try.prog false C n 41 none (cdp Try.f41 [1, 1, 1, 1, 0, 1, 0, 0]) t s k) (scratch (cdp Try.f41 [1, 1, 1, 1, 0, 1, 0, 0])) m (f41_l2_m i0 i1 i2 i3 i5 i6 i8 i9 i10 i11 i12 i14 i15 i16 i17 i18 i19 i21 i22 i23 i24 i25 i26 i28 i29 i30 i31 i32 i33 i34 i35 i37 i38 i39 i40 i41 i42 i43 i44 i46 i47 i48 i49 i50 i51 i52 i53 x) s K = iterS (f41_l2 (dOps (H := H) Try.prog) C n i2 i3) (fun i x s => K (.exit i) (f41_l2_m i0 i1 i2 i3 i5 i6 i8 i9 i10 i11 i12 i14 i15 i16 i17 i18 i19 i21 i22 i23 i24 i25 i26 i28 i29 i30 i31 i32 i33 i34 i35 i37 i38 i39 i40 i41 i42 i43 i44 i46 i47 i48 i49 i50 i51 i52 i53 x) s) (fun x s => K .ret (f41_l2_m i0 i1 i2 i3 i5 i6 i8 i9 i10 i11 i12 i14 i15 i16 i17 i18 i19 i21 i22 i23 i24 i25 i26 i28 i29 i30 i31 i32 i33 i34 i35 i37 i38 i39 i40 i41 i42 i43 i44 i46 i47 i48 i49 i50 i51 i52 i53 x) s) m x s :=
   iter_eq (f41_l2_m i0 i1 i2 i3 i5 i6 i8 i9 i10 i11 i12 i14 i15 i16 i17 i18 i19 i21 i22 i23 i24 i25 i26 i28 i29 i30 i31 i32 i33 i34 i35 i37 i38 i39 i40 i41 i42 i43 i44 i46 i47 i48 i49 i50 i51 i52 i53) (f41_l2 (dOps (H := H) Try.prog) C n i2 i3) (fun x s nx K => f41_l2_b C n i0 i1 i2 i3 i5 i6 i8 i9 i10 i11 i12 i14 i15 i16 i17 i18 i19 i21 i22 i23 i24 i25 i26 i28 i29 i30 i31 i32 i33 i34 i35 i37 i38 i39 i40 i41 i42 i43 i44 i46 i47 i48 i49 i50 i51 i52 i53 x s nx K) K m x s
noncomputable def f41 (O : Ops H) (C : OracleJ H) (n : Nat) (a0 : Value) (a1 : Value) (s : St H) : Option (List (Value × St H)) :=
 (O.box s a0).bind fun p1 =>
 (O.box p1.2 a1).bind fun p2 =>
 (O.fieldAddr 72 p1.1 0).bind fun v3 =>
 (O.load p2.2 3 v3).bind fun v4 =>
 (O.fieldAddr 72 p2.1 0).bind fun v5 =>
 (O.load p2.2 3 v5).bind fun v6 =>
 (O.bop .neq 3 v4 v6).bind fun v7 =>
 gd v7 (
 some [((.bool false), p2.2)]) (
 (O.fieldAddr 72 p1.1 4).bind fun v8 =>
 (O.load p2.2 69 v8).bind fun v9 =>
 (O.fieldAddr 72 p2.1 4).bind fun v10 =>
 (O.load p2.2 69 v10).bind fun v11 =>
 (O.bop .neq 69 v9 v11).bind fun v12 =>
 gd v12 (
 some [((.bool false), p2.2)]) (
 (O.fieldAddr 72 p1.1 5).bind fun v13 =>
 (O.load p2.2 70 v13).bind fun v14 =>
 (O.fieldAddr 72 p2.1 5).bind fun v15 =>
 (O.load p2.2 70 v15).bind fun v16 =>
 (O.bop .neq 70 v14 v16).bind fun v17 =>
 gd v17 (
 some [((.bool false), p2.2)]) (
 (O.fieldAddr 72 p1.1 1).bind fun v18 =>
 (O.load p2.2 65 v18).bind fun v19 =>
 (O.len p2.2 65 v19).bind fun v20 =>
 (O.fieldAddr 72 p2.1 1).bind fun v21 =>
 (O.load p2.2 65 v21).bind fun v22 =>
 (O.len p2.2 65 v22).bind fun v23 =>
 (O.bop .neq 3 v20 v23).bind fun v24 =>
 gd v24 (
 some [((.bool false), p2.2)]) (
 (O.fieldAddr 72 p1.1 2).bind fun v25 =>
 (O.load p2.2 66 v25).bind fun v26 =>
 (O.len p2.2 66 v26).bind fun v27 =>
 (O.fieldAddr 72 p2.1 2).bind fun v28 =>
 (O.load p2.2 66 v28).bind fun v29 =>
 (O.len p2.2 66 v29).bind fun v30 =>
 (O.bop .neq 3 v27 v30).bind fun v31 =>
 gd v31 (
 some [((.bool false), p2.2)]) (
 (O.fieldAddr 72 p1.1 3).bind fun v32 =>
 (O.load p2.2 67 v32).bind fun v33 =>
 (O.len p2.2 67 v33).bind fun v34 =>
 (O.fieldAddr 72 p2.1 3).bind fun v35 =>
 (O.load p2.2 67 v35).bind fun v36 =>
 (O.len p2.2 67 v36).bind fun v37 =>
 (O.bop .neq 3 v34 v37).bind fun v38 =>
 (O.boolO v38).bind fun b45 => cond b45 (
 some [((.bool false), p2.2)]) (
 iterS (f41_l0 O C n p1.1 p2.1 )
 (fun i78 x79 s80 => (bif Nat.beq i78 0 then
 iterS (f41_l1 O C n p1.1 p2.1 )
 (fun i99 x100 s101 => (bif Nat.beq i99 2 then
 iterS (f41_l2 O C n p1.1 p2.1 )
 (fun i120 x121 s122 => (bif Nat.beq i120 4 then
 some [((.bool true), s122)] else none))
 (fun x123 s124 => some [(x123.1, s124)]) n (x100.1, (Go.Value.int Go.IntKind.i64 0)) s101 else none))
 (fun x102 s103 => some [(x102.1, s103)]) n (x79.1, (Go.Value.int Go.IntKind.i64 0)) s80 else none))
 (fun x81 s82 => some [(x81.1, s82)]) n ((.bool false), (Go.Value.int Go.IntKind.i64 0)) p2.2)) (
 none)) (
 none)) (
 none)) (
 none)) (
 none)
theorem f41_l2_k (C : OracleJ H) (n : Nat) (i0 : Value) (i1 : Value) (i2 : Value) (i3 : Value) (i5 : Value) (i6 : Value) (i8 : Value) (i9 : Value) (i10 : Value) (i11 : Value) (i12 : Value) (i14 : Value) (i15 : Value) (i16 : Value) (i17 : Value) (i18 : Value) (i19 : Value) (i21 : Value) (i22 : Value) (i23 : Value) (i24 : Value) (i25 : Value) (i26 : Value) (i28 : Value) (i29 : Value) (i30 : Value) (i31 : Value) (i32 : Value) (i33 : Value) (i34 : Value) (i35 : Value) (i37 : Value) (i38 : Value) (i39 : Value) (i40 : Value) (i41 : Value) (i42 : Value) (i43 : Value) (i44 : Value) (i46 : Value) (i47 : Value) (i48 : Value) (i49 : Value) (i50 : Value) (i51 : Value) (i52 : Value) (i53 : Value) (i : Nat) (x : Value × Value) (s : St H) : (kBlock 4 (kSeq Try.prog false C n 41 none (cdp Try.f41 [1, 1, 1, 1, 1]) (kFun Try.prog Try.f41))) (.exit i) (f41_l2_m i0 i1 i2 i3 i5 i6 i8 i9 i10 i11 i12 i14 i15 i16 i17 i18 i19 i21 i22 i23 i24 i25 i26 i28 i29 i30 i31 i32 i33 i34 i35 i37 i38 i39 i40 i41 i42 i43 i44 i46 i47 i48 i49 i50 i51 i52 i53 x) s =
 (bif Nat.beq i 4 then
 some [((.bool true), s)] else none) := by kernel_rfl
theorem f41_l1_k (C : OracleJ H) (n : Nat) (i0 : Value) (i1 : Value) (i2 : Value) (i3 : Value) (i5 : Value) (i8 : Value) (i9 : Value) (i10 : Value) (i11 : Value) (i12 : Value) (i14 : Value) (i15 : Value) (i16 : Value) (i17 : Value) (i18 : Value) (i19 : Value) (i21 : Value) (i22 : Value) (i23 : Value) (i24 : Value) (i25 : Value) (i26 : Value) (i28 : Value) (i29 : Value) (i30 : Value) (i31 : Value) (i32 : Value) (i33 : Value) (i34 : Value) (i35 : Value) (i37 : Value) (i38 : Value) (i39 : Value) (i40 : Value) (i41 : Value) (i42 : Value) (i43 : Value) (i44 : Value) (i46 : Value) (i47 : Value) (i48 : Value) (i49 : Value) (i50 : Value) (i51 : Value) (i52 : Value) (i53 : Value) (i : Nat) (x : Value × Value) (s : St H) : (kBlock 2 (kSeq Try.prog false C n 41 none (cdp Try.f41 [1, 1, 1, 1]) (kFun Try.prog Try.f41))) (.exit i) (f41_l1_m i0 i1 i2 i3 i5 i8 i9 i10 i11 i12 i14 i15 i16 i17 i18 i19 i21 i22 i23 i24 i25 i26 i28 i29 i30 i31 i32 i33 i34 i35 i37 i38 i39 i40 i41 i42 i43 i44 i46 i47 i48 i49 i50 i51 i52 i53 x) s =
 (bif Nat.beq i 2 then
 iterS (f41_l2 (dOps (H := H) Try.prog) C n i2 i3 )
 (fun i170 x171 s172 => (bif Nat.beq i170 4 then
 some [((.bool true), s172)] else none))
 (fun x173 s174 => some [(x173.1, s174)]) n (x.1, (Go.Value.int Go.IntKind.i64 0)) s else none) := by
  have h1 : (kBlock 2 (kSeq Try.prog false C n 41 none (cdp Try.f41 [1, 1, 1, 1]) (kFun Try.prog Try.f41))) (.exit i) (f41_l1_m i0 i1 i2 i3 i5 i8 i9 i10 i11 i12 i14 i15 i16 i17 i18 i19 i21 i22 i23 i24 i25 i26 i28 i29 i30 i31 i32 i33 i34 i35 i37 i38 i39 i40 i41 i42 i43 i44 i46 i47 i48 i49 i50 i51 i52 i53 x) s =
 (bif Nat.beq i 2 then
 iter (fun t s k => exec Try.prog false C n 41 none (cdp Try.f41 [1, 1, 1, 1, 0, 1, 0, 0]) t s k) (scratch (cdp Try.f41 [1, 1, 1, 1, 0, 1, 0, 0])) n (f41_l2_m i0 i1 i2 i3 i5 x.2 i8 i9 i10 i11 i12 i14 i15 i16 i17 i18 i19 i21 i22 i23 i24 i25 i26 i28 i29 i30 i31 i32 i33 i34 i35 i37 i38 i39 i40 i41 i42 i43 i44 i46 i47 i48 i49 i50 i51 i52 i53 (x.1, (Go.Value.int Go.IntKind.i64 0))) s (kBlock 4 (kSeq Try.prog false C n 41 none (cdp Try.f41 [1, 1, 1, 1, 1]) (kFun Try.prog Try.f41))) else none) := by kernel_rfl
  rw [h1]
  simp only [f41_l2_e, f41_l2_k]
  show _ = (bif Nat.beq i 2 then
 iterS (f41_l2 (dOps (H := H) Try.prog) C n i2 i3 )
 (fun i170 x171 s172 => (bif Nat.beq i170 4 then
 some [((.bool true), s172)] else none))
 (fun x173 s174 => some [(x173.1, s174)]) n (x.1, (Go.Value.int Go.IntKind.i64 0)) s else none)
  kernel_rfl
theorem f41_l0_k (C : OracleJ H) (n : Nat) (i0 : Value) (i1 : Value) (i2 : Value) (i3 : Value) (i8 : Value) (i9 : Value) (i10 : Value) (i11 : Value) (i12 : Value) (i14 : Value) (i15 : Value) (i16 : Value) (i17 : Value) (i18 : Value) (i19 : Value) (i21 : Value) (i22 : Value) (i23 : Value) (i24 : Value) (i25 : Value) (i26 : Value) (i28 : Value) (i29 : Value) (i30 : Value) (i31 : Value) (i32 : Value) (i33 : Value) (i34 : Value) (i35 : Value) (i37 : Value) (i38 : Value) (i39 : Value) (i40 : Value) (i41 : Value) (i42 : Value) (i43 : Value) (i44 : Value) (i46 : Value) (i47 : Value) (i48 : Value) (i49 : Value) (i50 : Value) (i51 : Value) (i52 : Value) (i53 : Value) (i : Nat) (x : Value × Value) (s : St H) : (kBlock 0 (kSeq Try.prog false C n 41 none (cdp Try.f41 [1, 1, 1]) (kFun Try.prog Try.f41))) (.exit i) (f41_l0_m i0 i1 i2 i3 i8 i9 i10 i11 i12 i14 i15 i16 i17 i18 i19 i21 i22 i23 i24 i25 i26 i28 i29 i30 i31 i32 i33 i34 i35 i37 i38 i39 i40 i41 i42 i43 i44 i46 i47 i48 i49 i50 i51 i52 i53 x) s =
 (bif Nat.beq i 0 then
 iterS (f41_l1 (dOps (H := H) Try.prog) C n i2 i3 )
 (fun i175 x176 s177 => (bif Nat.beq i175 2 then
 iterS (f41_l2 (dOps (H := H) Try.prog) C n i2 i3 )
 (fun i180 x181 s182 => (bif Nat.beq i180 4 then
 some [((.bool true), s182)] else none))
 (fun x183 s184 => some [(x183.1, s184)]) n (x176.1, (Go.Value.int Go.IntKind.i64 0)) s177 else none))
 (fun x178 s179 => some [(x178.1, s179)]) n (x.1, (Go.Value.int Go.IntKind.i64 0)) s else none) := by
  have h1 : (kBlock 0 (kSeq Try.prog false C n 41 none (cdp Try.f41 [1, 1, 1]) (kFun Try.prog Try.f41))) (.exit i) (f41_l0_m i0 i1 i2 i3 i8 i9 i10 i11 i12 i14 i15 i16 i17 i18 i19 i21 i22 i23 i24 i25 i26 i28 i29 i30 i31 i32 i33 i34 i35 i37 i38 i39 i40 i41 i42 i43 i44 i46 i47 i48 i49 i50 i51 i52 i53 x) s =
 (bif Nat.beq i 0 then
 iter (fun t s k => exec Try.prog false C n 41 none (cdp Try.f41 [1, 1, 1, 0, 1, 0, 0]) t s k) (scratch (cdp Try.f41 [1, 1, 1, 0, 1, 0, 0])) n (f41_l1_m i0 i1 i2 i3 x.2 i8 i9 i10 i11 i12 i14 i15 i16 i17 i18 i19 i21 i22 i23 i24 i25 i26 i28 i29 i30 i31 i32 i33 i34 i35 i37 i38 i39 i40 i41 i42 i43 i44 i46 i47 i48 i49 i50 i51 i52 i53 (x.1, (Go.Value.int Go.IntKind.i64 0))) s (kBlock 2 (kSeq Try.prog false C n 41 none (cdp Try.f41 [1, 1, 1, 1]) (kFun Try.prog Try.f41))) else none) := by kernel_rfl
  rw [h1]
  simp only [f41_l1_e, f41_l1_k]
  show _ = (bif Nat.beq i 0 then
 iterS (f41_l1 (dOps (H := H) Try.prog) C n i2 i3 )
 (fun i175 x176 s177 => (bif Nat.beq i175 2 then
 iterS (f41_l2 (dOps (H := H) Try.prog) C n i2 i3 )
 (fun i180 x181 s182 => (bif Nat.beq i180 4 then
 some [((.bool true), s182)] else none))
 (fun x183 s184 => some [(x183.1, s184)]) n (x176.1, (Go.Value.int Go.IntKind.i64 0)) s177 else none))
 (fun x178 s179 => some [(x178.1, s179)]) n (x.1, (Go.Value.int Go.IntKind.i64 0)) s else none)
  kernel_rfl
theorem f41_r (C : OracleJ H) (n : Nat) (a0 : Value) (a1 : Value) (s : St H) : bodyD Try.prog false C n 41 Try.f41 [a0, a1] s = f41 (dOps (H := H) Try.prog) C n a0 a1 s := by
  have h1 : bodyD Try.prog false C n 41 Try.f41 [a0, a1] s =
 ((dOps (H := H) Try.prog).box s a0).bind fun p125 =>
 ((dOps (H := H) Try.prog).box p125.2 a1).bind fun p126 =>
 ((dOps (H := H) Try.prog).fieldAddr 72 p125.1 0).bind fun v127 =>
 ((dOps (H := H) Try.prog).load p126.2 3 v127).bind fun v128 =>
 ((dOps (H := H) Try.prog).fieldAddr 72 p126.1 0).bind fun v129 =>
 ((dOps (H := H) Try.prog).load p126.2 3 v129).bind fun v130 =>
 ((dOps (H := H) Try.prog).bop .neq 3 v128 v130).bind fun v131 =>
 gd v131 (
 some [((.bool false), p126.2)]) (
 ((dOps (H := H) Try.prog).fieldAddr 72 p125.1 4).bind fun v132 =>
 ((dOps (H := H) Try.prog).load p126.2 69 v132).bind fun v133 =>
 ((dOps (H := H) Try.prog).fieldAddr 72 p126.1 4).bind fun v134 =>
 ((dOps (H := H) Try.prog).load p126.2 69 v134).bind fun v135 =>
 ((dOps (H := H) Try.prog).bop .neq 69 v133 v135).bind fun v136 =>
 gd v136 (
 some [((.bool false), p126.2)]) (
 ((dOps (H := H) Try.prog).fieldAddr 72 p125.1 5).bind fun v137 =>
 ((dOps (H := H) Try.prog).load p126.2 70 v137).bind fun v138 =>
 ((dOps (H := H) Try.prog).fieldAddr 72 p126.1 5).bind fun v139 =>
 ((dOps (H := H) Try.prog).load p126.2 70 v139).bind fun v140 =>
 ((dOps (H := H) Try.prog).bop .neq 70 v138 v140).bind fun v141 =>
 gd v141 (
 some [((.bool false), p126.2)]) (
 ((dOps (H := H) Try.prog).fieldAddr 72 p125.1 1).bind fun v142 =>
 ((dOps (H := H) Try.prog).load p126.2 65 v142).bind fun v143 =>
 ((dOps (H := H) Try.prog).len p126.2 65 v143).bind fun v144 =>
 ((dOps (H := H) Try.prog).fieldAddr 72 p126.1 1).bind fun v145 =>
 ((dOps (H := H) Try.prog).load p126.2 65 v145).bind fun v146 =>
 ((dOps (H := H) Try.prog).len p126.2 65 v146).bind fun v147 =>
 ((dOps (H := H) Try.prog).bop .neq 3 v144 v147).bind fun v148 =>
 gd v148 (
 some [((.bool false), p126.2)]) (
 ((dOps (H := H) Try.prog).fieldAddr 72 p125.1 2).bind fun v149 =>
 ((dOps (H := H) Try.prog).load p126.2 66 v149).bind fun v150 =>
 ((dOps (H := H) Try.prog).len p126.2 66 v150).bind fun v151 =>
 ((dOps (H := H) Try.prog).fieldAddr 72 p126.1 2).bind fun v152 =>
 ((dOps (H := H) Try.prog).load p126.2 66 v152).bind fun v153 =>
 ((dOps (H := H) Try.prog).len p126.2 66 v153).bind fun v154 =>
 ((dOps (H := H) Try.prog).bop .neq 3 v151 v154).bind fun v155 =>
 gd v155 (
 some [((.bool false), p126.2)]) (
 ((dOps (H := H) Try.prog).fieldAddr 72 p125.1 3).bind fun v156 =>
 ((dOps (H := H) Try.prog).load p126.2 67 v156).bind fun v157 =>
 ((dOps (H := H) Try.prog).len p126.2 67 v157).bind fun v158 =>
 ((dOps (H := H) Try.prog).fieldAddr 72 p126.1 3).bind fun v159 =>
 ((dOps (H := H) Try.prog).load p126.2 67 v159).bind fun v160 =>
 ((dOps (H := H) Try.prog).len p126.2 67 v160).bind fun v161 =>
 ((dOps (H := H) Try.prog).bop .neq 3 v158 v161).bind fun v162 =>
 ((dOps (H := H) Try.prog).boolO v162).bind fun b169 => cond b169 (
 some [((.bool false), p126.2)]) (
 iter (fun t s k => exec Try.prog false C n 41 none (cdp Try.f41 [1, 1, 0, 1, 0, 0]) t s k) (scratch (cdp Try.f41 [1, 1, 0, 1, 0, 0])) n (f41_l0_m a0 a1 p125.1 p126.1 v127 v128 v129 v130 v131 v132 v133 v134 v135 v136 v136 v137 v138 v139 v140 v141 v141 v142 v143 v144 v145 v146 v147 v148 v148 v149 v150 v151 v152 v153 v154 v155 v155 v156 v157 v158 v159 v160 v161 v162 v162 ((.bool false), (Go.Value.int Go.IntKind.i64 0))) p126.2 (kBlock 0 (kSeq Try.prog false C n 41 none (cdp Try.f41 [1, 1, 1]) (kFun Try.prog Try.f41))))) (
 none)) (
 none)) (
 none)) (
 none)) (
 none) := by kernel_rfl
  rw [h1]
  simp only [f41_l0_e, f41_l0_k]
  show _ = f41 (dOps (H := H) Try.prog) C n a0 a1 s
  kernel_rfl
/-! tidepole/tidepolelaw19.works -/
noncomputable def f42 (O : Ops H) (C : OracleJ H) (n : Nat) (s : St H) : Option (List (Value × St H)) :=
 (O.build 72 [(0, (Go.Value.int Go.IntKind.i64 5)), (5, (Go.Value.int Go.IntKind.u64 300))]).bind fun v1 =>
 (C (.fn 43) [v1] s).bind fun L2 => manyK L2 fun v3 s4 =>
 (O.extract v3 0).bind fun v5 =>
 (O.extract v3 1).bind fun v6 =>
 (O.buildSlice false s4 67 2 [(0, (Go.Value.int Go.IntKind.u64 3)), (1, (Go.Value.int Go.IntKind.u64 5))]).bind fun p7 =>
 (O.build 69 [(0, (Go.Value.int Go.IntKind.i64 10)), (1, (Go.Value.int Go.IntKind.i64 12))]).bind fun v8 =>
 (O.build 72 [(0, (Go.Value.int Go.IntKind.i64 2)), (3, p7.1), (4, v8)]).bind fun v9 =>
 (C (.fn 43) [v9] p7.2).bind fun L10 => manyK L10 fun v11 s12 =>
 (O.extract v11 0).bind fun v13 =>
 (O.extract v11 1).bind fun v14 =>
 (O.buildSlice false s12 35 3 [(0, (Go.Value.int Go.IntKind.u8 5)), (1, (Go.Value.int Go.IntKind.u8 172)), (2, (Go.Value.int Go.IntKind.u8 2))]).bind fun p15 =>
 (C (.fn 26) [v5, p15.1] p15.2).bind fun L16 => manyK L16 fun v17 s18 =>
 gd v17 (
 (O.bop .eql 26 v6 (Go.Value.int Go.IntKind.i64 0)).bind fun v19 =>
 gd v19 (
 (O.buildSlice false s18 35 6 [(0, (Go.Value.int Go.IntKind.u8 2)), (1, (Go.Value.int Go.IntKind.u8 2)), (2, (Go.Value.int Go.IntKind.u8 3)), (3, (Go.Value.int Go.IntKind.u8 2)), (4, (Go.Value.int Go.IntKind.u8 10)), (5, (Go.Value.int Go.IntKind.u8 2))]).bind fun p20 =>
 (C (.fn 26) [v13, p20.1] p20.2).bind fun L21 => manyK L21 fun v22 s23 =>
 gd v22 (
 (O.bop .eql 26 v14 (Go.Value.int Go.IntKind.i64 0)).bind fun v24 =>
 some [(v24, s23)]) (
 some [((.bool false), s23)]) (
 none)) (
 some [((.bool false), s18)]) (
 none)) (
 some [((.bool false), s18)]) (
 none)
theorem f42_r (C : OracleJ H) (n : Nat) (s : St H) : bodyD Try.prog false C n 42 Try.f42 [] s = f42 (dOps (H := H) Try.prog) C n s := by kernel_rfl
/-! tidepole/rec.Put -/
noncomputable def f43 (O : Ops H) (C : OracleJ H) (n : Nat) (a0 : Value) (s : St H) : Option (List (Value × St H)) :=
 (O.box s a0).bind fun p1 =>
 (O.load p1.2 72 p1.1).bind fun v2 =>
 (C (.fn 95) [v2] p1.2).bind fun L3 => manyK L3 fun v4 s5 =>
 (O.bop .neq 26 v4 (Go.Value.int Go.IntKind.i64 0)).bind fun v6 =>
 (O.boolO v6).bind fun b7 => cond b7 (
 some [(.tuple #[(fzV 2 #[]), v4], s5)]) (
 (O.fieldAddr 72 p1.1 0).bind fun v8 =>
 (O.load s5 3 v8).bind fun v9 =>
 (O.conv false s5 3 5 v9).bind fun p10 =>
 (O.buildSlice false p10.2 35 1 [(0, p10.1)]).bind fun p11 =>
 (O.build 147 [(0, p11.1)]).bind fun v12 =>
 (O.box p11.2 v12).bind fun p13 =>
 (O.fieldAddr 72 p1.1 0).bind fun v14 =>
 (O.load p13.2 3 v14).bind fun v15 =>
 (O.bop .eql 3 v15 (Go.Value.int Go.IntKind.i64 1)).bind fun v16 =>
 jn (fun (js330 : St H) =>
 (O.nilCheck p13.1).bind fun v82 =>
 (O.fieldAddr 147 v82 0).bind fun v83 =>
 (O.load js330 35 v83).bind fun v84 =>
 (O.len js330 35 v84).bind fun v85 =>
 (O.bop .gtr 3 v85 (Go.Value.int Go.IntKind.i64 65536)).bind fun v86 =>
 (O.boolO v86).bind fun b87 => cond b87 (
 some [(.tuple #[(fzV 2 #[]), (Go.Value.int Go.IntKind.i64 3)], js330)]) (
 (O.nilCheck p13.1).bind fun v88 =>
 (O.fieldAddr 147 v88 0).bind fun v89 =>
 (O.load js330 35 v89).bind fun v90 =>
 some [(.tuple #[v90, (Go.Value.int Go.IntKind.i64 0)], js330)])) fun k330 =>
 (O.boolO v16).bind fun b17 => cond b17 (
 (O.fieldAddr 72 p1.1 1).bind fun v18 =>
 (O.load p13.2 65 v18).bind fun v19 =>
 (C (.fn 96) [p13.1, v19] p13.2).bind fun L20 => manyK L20 fun v21 s22 =>
 (O.fieldAddr 72 p1.1 2).bind fun v23 =>
 (O.load s22 66 v23).bind fun v24 =>
 (C (.fn 97) [p13.1, v24] s22).bind fun L25 => manyK L25 fun v26 s27 =>
 k330 s27) (
 (O.bop .eql 3 v15 (Go.Value.int Go.IntKind.i64 2)).bind fun v28 =>
 jn (fun (js334 : St H) =>
 k330 js334) fun k334 =>
 (O.boolO v28).bind fun b29 => cond b29 (
 (O.fieldAddr 72 p1.1 3).bind fun v30 =>
 (O.load p13.2 67 v30).bind fun v31 =>
 (C (.fn 98) [p13.1, v31] p13.2).bind fun L32 => manyK L32 fun v33 s34 =>
 (O.fieldAddr 72 p1.1 4).bind fun v35 =>
 (O.fieldAddr 69 v35 0).bind fun v36 =>
 (O.load s34 3 v36).bind fun v37 =>
 (O.conv false s34 3 70 v37).bind fun p38 =>
 (C (.fn 99) [p13.1, p38.1] p38.2).bind fun L39 => manyK L39 fun v40 s41 =>
 (O.fieldAddr 72 p1.1 4).bind fun v42 =>
 (O.fieldAddr 69 v42 1).bind fun v43 =>
 (O.load s41 3 v43).bind fun v44 =>
 (O.fieldAddr 72 p1.1 4).bind fun v45 =>
 (O.fieldAddr 69 v45 0).bind fun v46 =>
 (O.load s41 3 v46).bind fun v47 =>
 (O.bop .sub 3 v44 v47).bind fun v48 =>
 (O.conv false s41 3 70 v48).bind fun p49 =>
 (C (.fn 99) [p13.1, p49.1] p49.2).bind fun L50 => manyK L50 fun v51 s52 =>
 k334 s52) (
 (O.bop .eql 3 v15 (Go.Value.int Go.IntKind.i64 3)).bind fun v53 =>
 jn (fun (js339 : St H) =>
 k334 js339) fun k339 =>
 (O.boolO v53).bind fun b54 => cond b54 (
 (O.fieldAddr 72 p1.1 1).bind fun v55 =>
 (O.load p13.2 65 v55).bind fun v56 =>
 (C (.fn 96) [p13.1, v56] p13.2).bind fun L57 => manyK L57 fun v58 s59 =>
 k339 s59) (
 (O.bop .eql 3 v15 (Go.Value.int Go.IntKind.i64 4)).bind fun v60 =>
 jn (fun (js342 : St H) =>
 k339 js342) fun k342 =>
 (O.boolO v60).bind fun b61 => cond b61 (
 (O.fieldAddr 72 p1.1 3).bind fun v62 =>
 (O.load p13.2 67 v62).bind fun v63 =>
 (C (.fn 98) [p13.1, v63] p13.2).bind fun L64 => manyK L64 fun v65 s66 =>
 (O.fieldAddr 72 p1.1 5).bind fun v67 =>
 (O.load s66 70 v67).bind fun v68 =>
 (C (.fn 99) [p13.1, v68] s66).bind fun L69 => manyK L69 fun v70 s71 =>
 (O.fieldAddr 72 p1.1 1).bind fun v72 =>
 (O.load s71 65 v72).bind fun v73 =>
 (C (.fn 96) [p13.1, v73] s71).bind fun L74 => manyK L74 fun v75 s76 =>
 k342 s76) (
 (O.fieldAddr 72 p1.1 5).bind fun v77 =>
 (O.load p13.2 70 v77).bind fun v78 =>
 (C (.fn 99) [p13.1, v78] p13.2).bind fun L79 => manyK L79 fun v80 s81 =>
 k342 s81)))))
theorem f43_r (C : OracleJ H) (n : Nat) (a0 : Value) (s : St H) : bodyD Try.prog false C n 43 Try.f43 [a0] s = f43 (dOps (H := H) Try.prog) C n a0 s := by kernel_rfl
/-! tidepole/rec.Read -/
noncomputable def f44 (O : Ops H) (C : OracleJ H) (n : Nat) (a0 : Value) (s : St H) : Option (List (Value × St H)) :=
 (O.alloc s 72).bind fun p1 =>
 (O.len p1.2 35 a0).bind fun v2 =>
 (O.bop .eql 3 v2 (Go.Value.int Go.IntKind.i64 0)).bind fun v3 =>
 (O.boolO v3).bind fun b4 => cond b4 (
 (O.build 72 []).bind fun v5 =>
 (O.store p1.2 72 p1.1 v5).bind fun s6 =>
 (O.load s6 72 p1.1).bind fun v7 => some [(.tuple #[v7, (Go.Value.int Go.IntKind.i64 7)], s6)]) (
 (O.indexAddr 35 a0 (Go.Value.int Go.IntKind.i64 0)).bind fun v8 =>
 (O.load p1.2 5 v8).bind fun v9 =>
 (O.conv false p1.2 5 3 v9).bind fun p10 =>
 (O.build 72 [(0, p10.1)]).bind fun v11 =>
 (O.alloc p10.2 72).bind fun p12 =>
 (O.store p12.2 72 p12.1 v11).bind fun s13 =>
 (O.build 153 [(0, a0), (1, (Go.Value.int Go.IntKind.i64 1))]).bind fun v14 =>
 (O.box s13 v14).bind fun p15 =>
 (C (.fn 100) [p15.1, p12.1] p15.2).bind fun L16 => manyK L16 fun v17 s18 =>
 (O.uop .not v17).bind fun v19 =>
 (O.boolO v19).bind fun b20 => cond b20 (
 (O.build 72 []).bind fun v21 =>
 (O.store s18 72 p1.1 v21).bind fun s22 =>
 (O.load s22 72 p1.1).bind fun v23 => some [(.tuple #[v23, (Go.Value.int Go.IntKind.i64 190)], s22)]) (
 (O.nilCheck p15.1).bind fun v24 =>
 (O.fieldAddr 153 v24 2).bind fun v25 =>
 (O.load s18 26 v25).bind fun v26 =>
 (O.bop .neq 26 v26 (Go.Value.int Go.IntKind.i64 0)).bind fun v27 =>
 (O.boolO v27).bind fun b28 => cond b28 (
 (O.build 72 []).bind fun v29 =>
 (O.nilCheck p15.1).bind fun v30 =>
 (O.fieldAddr 153 v30 2).bind fun v31 =>
 (O.load s18 26 v31).bind fun v32 =>
 (O.store s18 72 p1.1 v29).bind fun s33 =>
 bif (eqO H (O.load s18 26 v31) v32 && (eqO H (O.load s33 26 v31) v32 && (true))) && (true) then
 (O.load s33 72 p1.1).bind fun v34 => some [(.tuple #[v34, v32], s33)]
 else none) (
 jn (fun (j364_34 : Value) (js364 : St H) =>
 (O.boolO j364_34).bind fun b51 => cond b51 (
 (O.build 72 []).bind fun v52 =>
 (O.store js364 72 p1.1 v52).bind fun s53 =>
 (O.load s53 72 p1.1).bind fun v54 => some [(.tuple #[v54, (Go.Value.int Go.IntKind.i64 190)], s53)]) (
 (O.load js364 72 p12.1).bind fun v55 =>
 (O.store js364 72 p1.1 v55).bind fun s56 =>
 (O.load s56 72 p1.1).bind fun v57 => some [(.tuple #[v57, (Go.Value.int Go.IntKind.i64 0)], s56)])) fun k364 =>
 (O.nilCheck p15.1).bind fun v35 =>
 (O.fieldAddr 153 v35 1).bind fun v36 =>
 (O.load s18 3 v36).bind fun v37 =>
 (O.len s18 35 a0).bind fun v38 =>
 (O.bop .lss 3 v37 v38).bind fun v39 =>
 gd v39 (
 k364 (.bool true) s18) (
 (O.len s18 35 a0).bind fun v40 =>
 (O.bop .gtr 3 v40 (Go.Value.int Go.IntKind.i64 65536)).bind fun v41 =>
 gd v41 (
 k364 (.bool true) s18) (
 (O.load s18 72 p12.1).bind fun v42 =>
 (C (.fn 95) [v42] s18).bind fun L43 => manyK L43 fun v44 s45 =>
 (O.bop .neq 26 v44 (Go.Value.int Go.IntKind.i64 0)).bind fun v46 =>
 k364 v46 s45) (
 none)) (
 none))))
theorem f44_r (C : OracleJ H) (n : Nat) (a0 : Value) (s : St H) : bodyD Try.prog false C n 44 Try.f44 [a0] s = f44 (dOps (H := H) Try.prog) C n a0 s := by kernel_rfl
/-! tidepole/label.named -/
def f68_l0_m (i0 : Value) (i4 : Value) (i5 : Value) (x : Value × Value × Value) : List Value := [i0, undefV, x.1, x.2.1, i4, i5, x.2.2, dc, dc, dc, dc, dc, dc, dc, dc, dc, dc, undefV, undefV, undefV, undefV, undefV, undefV, undefV]
noncomputable def f68_l0 (O : Ops H) (C : OracleJ H) (n : Nat) (i0 : Value) (i5 : Value) (nx : (Value × Value × Value) → St H → Option (List (Value × St H))) (kx : Nat → (Value × Value × Value) → St H → Option (List (Value × St H))) (kr : (Value × Value × Value) → St H → Option (List (Value × St H))) (x : Value × Value × Value) (s : St H) : Option (List (Value × St H)) :=
 (O.bop .lss 3 x.2.2 i5).bind fun v2 =>
 (O.boolO v2).bind fun b3 => cond b3 (
 (O.index 9 i0 x.2.2).bind fun v4 =>
 (O.bop .eql 3 x.2.2 (Go.Value.int Go.IntKind.i64 0)).bind fun v5 =>
 (C (.fn 118) [v4, v5] s).bind fun L6 => manyK L6 fun v7 s8 =>
 (O.uop .not v7).bind fun v9 =>
 (O.boolO v9).bind fun b10 => cond b10 (
 kr ((.bool false), x.2.2, x.2.2) s8) (
 (O.bop .add 3 x.2.2 (Go.Value.int Go.IntKind.i64 1)).bind fun v11 =>
 nx (x.1, x.2.2, v11) s8)) (
 kx 0 (x.1, x.2.1, x.2.2) s)
theorem f68_l0_b (C : OracleJ H) (n : Nat) (i0 : Value) (i4 : Value) (i5 : Value) (x : Value × Value × Value) (s : St H) (nx : List Value → St H → Option (List (Value × St H))) (K : Ex → List Value → St H → Option (List (Value × St H))) :
 exec Try.prog false C n 68 none (cdp Try.f68 [1, 0, 1, 0, 0]) (f68_l0_m i0 i4 i5 x) s (kIter (scratch (cdp Try.f68 [1, 0, 1, 0, 0])) nx K) = f68_l0 (dOps (H := H) Try.prog) C n i0 i5 (fun x s => nx (f68_l0_m i0 i4 i5 x) s) (fun i x s => K (.exit i) (f68_l0_m i0 i4 i5 x) s) (fun x s => K .ret (f68_l0_m i0 i4 i5 x) s) x s := by kernel_rfl
theorem f68_l0_e (C : OracleJ H) (n : Nat) (i0 : Value) (i4 : Value) (i5 : Value) (m : Nat) (x : Value × Value × Value) (s : St H) (K : Ex → List Value → St H → Option (List (Value × St H))) :
 iter (fun t s k => exec Try.prog false C n 68 none (cdp Try.f68 [1, 0, 1, 0, 0]) t s k) (scratch (cdp Try.f68 [1, 0, 1, 0, 0])) m (f68_l0_m i0 i4 i5 x) s K = iterS (f68_l0 (dOps (H := H) Try.prog) C n i0 i5) (fun i x s => K (.exit i) (f68_l0_m i0 i4 i5 x) s) (fun x s => K .ret (f68_l0_m i0 i4 i5 x) s) m x s :=
   iter_eq (f68_l0_m i0 i4 i5) (f68_l0 (dOps (H := H) Try.prog) C n i0 i5) (fun x s nx K => f68_l0_b C n i0 i4 i5 x s nx K) K m x s
noncomputable def f68 (O : Ops H) (C : OracleJ H) (n : Nat) (a0 : Value) (s : St H) : Option (List (Value × St H)) :=
 (O.len s 9 a0).bind fun v1 =>
 iterS (f68_l0 O C n a0 v1 )
 (fun i12 x13 s14 => (bif Nat.beq i12 0 then
 (O.bop .neq 9 a0 (Go.Value.string { data := #[] })).bind fun v17 =>
 gd v17 (
 (O.len s14 9 a0).bind fun v18 =>
 (O.bop .leq 3 v18 (Go.Value.int Go.IntKind.i64 64)).bind fun v19 =>
 some [(v19, s14)]) (
 some [((.bool false), s14)]) (
 none) else none))
 (fun x15 s16 => some [(x15.1, s16)]) n ((.bool false), undefV, (Go.Value.int Go.IntKind.i64 0)) s
theorem f68_l0_k (C : OracleJ H) (n : Nat) (i0 : Value) (i4 : Value) (i5 : Value) (i : Nat) (x : Value × Value × Value) (s : St H) : (kBlock 0 (kSeq Try.prog false C n 68 none (cdp Try.f68 [1, 1]) (kFun Try.prog Try.f68))) (.exit i) (f68_l0_m i0 i4 i5 x) s =
 (bif Nat.beq i 0 then
 ((dOps (H := H) Try.prog).bop .neq 9 i0 (Go.Value.string { data := #[] })).bind fun v24 =>
 gd v24 (
 ((dOps (H := H) Try.prog).len s 9 i0).bind fun v25 =>
 ((dOps (H := H) Try.prog).bop .leq 3 v25 (Go.Value.int Go.IntKind.i64 64)).bind fun v26 =>
 some [(v26, s)]) (
 some [((.bool false), s)]) (
 none) else none) := by kernel_rfl
theorem f68_r (C : OracleJ H) (n : Nat) (a0 : Value) (s : St H) : bodyD Try.prog false C n 68 Try.f68 [a0] s = f68 (dOps (H := H) Try.prog) C n a0 s := by
  have h1 : bodyD Try.prog false C n 68 Try.f68 [a0] s =
 ((dOps (H := H) Try.prog).len s 9 a0).bind fun v20 =>
 iter (fun t s k => exec Try.prog false C n 68 none (cdp Try.f68 [1, 0, 1, 0, 0]) t s k) (scratch (cdp Try.f68 [1, 0, 1, 0, 0])) n (f68_l0_m a0 a0 v20 ((.bool false), undefV, (Go.Value.int Go.IntKind.i64 0))) s (kBlock 0 (kSeq Try.prog false C n 68 none (cdp Try.f68 [1, 1]) (kFun Try.prog Try.f68))) := by kernel_rfl
  rw [h1]
  simp only [f68_l0_e, f68_l0_k]
  show _ = f68 (dOps (H := H) Try.prog) C n a0 s
  kernel_rfl
/-! tidepole/vint.Put -/
noncomputable def f72 (O : Ops H) (C : OracleJ H) (n : Nat) (a0 : Value) (a1 : Value) (s : St H) : Option (List (Value × St H)) :=
 (C (.fn 123) [a0, a1, (.func (.func 124) #[] #[])] s).bind fun L1 => manyK L1 fun v2 s3 =>
 some [(v2, s3)]
theorem f72_r (C : OracleJ H) (n : Nat) (a0 : Value) (a1 : Value) (s : St H) : bodyD Try.prog false C n 72 Try.f72 [a0, a1] s = f72 (dOps (H := H) Try.prog) C n a0 a1 s := by kernel_rfl
/-! tidepole/vint.PutBytes -/
noncomputable def f73 (O : Ops H) (C : OracleJ H) (n : Nat) (a0 : Value) (a1 : Value) (s : St H) : Option (List (Value × St H)) :=
 (O.len s 35 a1).bind fun v1 =>
 (O.bop .gtr 3 v1 (Go.Value.int Go.IntKind.i64 65536)).bind fun v2 =>
 (O.boolO v2).bind fun b3 => cond b3 (
 some [(.tuple #[(fzV 2 #[]), (Go.Value.int Go.IntKind.i64 3)], s)]) (
 (O.len s 35 a1).bind fun v4 =>
 (O.conv false s 3 70 v4).bind fun p5 =>
 (C (.fn 72) [a0, p5.1] p5.2).bind fun L6 => manyK L6 fun v7 s8 =>
 (O.append false s8 35 35 v7 a1).bind fun p9 =>
 some [(.tuple #[p9.1, (Go.Value.int Go.IntKind.i64 0)], p9.2)])
theorem f73_r (C : OracleJ H) (n : Nat) (a0 : Value) (a1 : Value) (s : St H) : bodyD Try.prog false C n 73 Try.f73 [a0, a1] s = f73 (dOps (H := H) Try.prog) C n a0 a1 s := by kernel_rfl
/-! tidepole/vint.Read -/
def f74_l0_m (i0 : Value) (i1 : Value) (i10 : Value) (i11 : Value) (i13 : Value) (i14 : Value) (i15 : Value) (i16 : Value) (i17 : Value) (i18 : Value) (i19 : Value) (i20 : Value) (i21 : Value) (x : Value × Value × Value × Value × Value × Value × Value × Value) : List Value := [i0, i1, undefV, undefV, x.1, x.2.1, x.2.2.1, x.2.2.2.1, x.2.2.2.2.1, x.2.2.2.2.2.1, i10, i11, (.bool false), i13, i14, i15, i16, i17, i18, i19, i20, i21, x.2.2.2.2.2.2.1, dc, dc, dc, dc, x.2.2.2.2.2.2.2, dc, dc, dc, dc, dc, dc, dc, dc, dc, dc, dc, dc, dc, dc, dc, dc, dc, dc, dc, dc, dc, dc, dc, dc, dc, dc, dc, dc]
noncomputable def f74_l0 (O : Ops H) (C : OracleJ H) (n : Nat) (i1 : Value) (i20 : Value) (i21 : Value) (nx : (Value × Value × Value × Value × Value × Value × Value × Value) → St H → Option (List (Value × St H))) (kx : Nat → (Value × Value × Value × Value × Value × Value × Value × Value) → St H → Option (List (Value × St H))) (kr : (Value × Value × Value × Value × Value × Value × Value × Value) → St H → Option (List (Value × St H))) (x : Value × Value × Value × Value × Value × Value × Value × Value) (s : St H) : Option (List (Value × St H)) :=
 (O.bop .lss 3 x.2.2.2.2.2.2.1 i21).bind fun v9 =>
 (O.boolO v9).bind fun b10 => cond b10 (
 (O.indexAddr 35 i20 x.2.2.2.2.2.2.1).bind fun v11 =>
 (O.load s 5 v11).bind fun v12 =>
 jn (fun (j407_27 : Value) =>
 jn (fun (j414_27 : Value) =>
 (O.boolO j414_27).bind fun b24 => cond b24 (
 kr ((Go.Value.int Go.IntKind.u64 0), (Go.Value.int Go.IntKind.i64 0), (Go.Value.int Go.IntKind.i64 10), x.2.2.2.1, x.2.2.2.2.2.2.1, v12, x.2.2.2.2.2.2.1, j414_27) s) (
 (O.bop .and 5 v12 (Go.Value.int Go.IntKind.u8 127)).bind fun v25 =>
 (O.conv false s 5 70 v25).bind fun p26 =>
 (O.bop .mul 3 (Go.Value.int Go.IntKind.i64 7) x.2.2.2.2.2.2.1).bind fun v27 =>
 (O.bop .shl 70 p26.1 v27).bind fun v28 =>
 (O.bop .or 70 x.2.2.2.1 v28).bind fun v29 =>
 (O.bop .lss 5 v12 (Go.Value.int Go.IntKind.u8 128)).bind fun v30 =>
 (O.boolO v30).bind fun b31 => cond b31 (
 (O.bop .add 3 i1 x.2.2.2.2.2.2.1).bind fun v32 =>
 (O.bop .add 3 v32 (Go.Value.int Go.IntKind.i64 1)).bind fun v33 =>
 kr (v29, v33, (Go.Value.int Go.IntKind.i64 0), v29, x.2.2.2.2.2.2.1, v12, x.2.2.2.2.2.2.1, j414_27) p26.2) (
 (O.bop .add 3 x.2.2.2.2.2.2.1 (Go.Value.int Go.IntKind.i64 1)).bind fun v34 =>
 nx (x.1, x.2.1, x.2.2.1, v29, x.2.2.2.2.2.2.1, v12, v34, j414_27) p26.2))) fun k414 =>
 (O.boolO j407_27).bind fun b20 => cond b20 (
 k414 j407_27) (
 jn (fun (j415_27 : Value) =>
 k414 j415_27) fun k415 =>
 (O.bop .gtr 3 x.2.2.2.2.2.2.1 (Go.Value.int Go.IntKind.i64 0)).bind fun v21 =>
 gd v21 (
 (O.bop .eql 5 v12 (Go.Value.int Go.IntKind.u8 0)).bind fun v22 =>
 k415 v22) (
 k415 (.bool false)) (
 none))) fun k407 =>
 (O.bop .eql 3 x.2.2.2.2.2.2.1 (Go.Value.int Go.IntKind.i64 9)).bind fun v13 =>
 gd v13 (
 (O.bop .gtr 5 v12 (Go.Value.int Go.IntKind.u8 1)).bind fun v14 =>
 k407 v14) (
 k407 (.bool false)) (
 none)) (
 kx 0 (x.1, x.2.1, x.2.2.1, x.2.2.2.1, x.2.2.2.2.1, x.2.2.2.2.2.1, x.2.2.2.2.2.2.1, x.2.2.2.2.2.2.2) s)
theorem f74_l0_b (C : OracleJ H) (n : Nat) (i0 : Value) (i1 : Value) (i10 : Value) (i11 : Value) (i13 : Value) (i14 : Value) (i15 : Value) (i16 : Value) (i17 : Value) (i18 : Value) (i19 : Value) (i20 : Value) (i21 : Value) (x : Value × Value × Value × Value × Value × Value × Value × Value) (s : St H) (nx : List Value → St H → Option (List (Value × St H))) (K : Ex → List Value → St H → Option (List (Value × St H))) :
 exec Try.prog false C n 74 none (cdp Try.f74 [1, 1, 1, 0, 1, 0, 0]) (f74_l0_m i0 i1 i10 i11 i13 i14 i15 i16 i17 i18 i19 i20 i21 x) s (kIter (scratch (cdp Try.f74 [1, 1, 1, 0, 1, 0, 0])) nx K) = f74_l0 (dOps (H := H) Try.prog) C n i1 i20 i21 (fun x s => nx (f74_l0_m i0 i1 i10 i11 i13 i14 i15 i16 i17 i18 i19 i20 i21 x) s) (fun i x s => K (.exit i) (f74_l0_m i0 i1 i10 i11 i13 i14 i15 i16 i17 i18 i19 i20 i21 x) s) (fun x s => K .ret (f74_l0_m i0 i1 i10 i11 i13 i14 i15 i16 i17 i18 i19 i20 i21 x) s) x s := by kernel_rfl
theorem f74_l0_e (C : OracleJ H) (n : Nat) (i0 : Value) (i1 : Value) (i10 : Value) (i11 : Value) (i13 : Value) (i14 : Value) (i15 : Value) (i16 : Value) (i17 : Value) (i18 : Value) (i19 : Value) (i20 : Value) (i21 : Value) (m : Nat) (x : Value × Value × Value × Value × Value × Value × Value × Value) (s : St H) (K : Ex → List Value → St H → Option (List (Value × St H))) :
 iter (fun t s k => exec Try.prog false C n 74 none (cdp Try.f74 [1, 1, 1, 0, 1, 0, 0]) t s k) (scratch (cdp Try.f74 [1, 1, 1, 0, 1, 0, 0])) m (f74_l0_m i0 i1 i10 i11 i13 i14 i15 i16 i17 i18 i19 i20 i21 x) s K = iterS (f74_l0 (dOps (H := H) Try.prog) C n i1 i20 i21) (fun i x s => K (.exit i) (f74_l0_m i0 i1 i10 i11 i13 i14 i15 i16 i17 i18 i19 i20 i21 x) s) (fun x s => K .ret (f74_l0_m i0 i1 i10 i11 i13 i14 i15 i16 i17 i18 i19 i20 i21 x) s) m x s :=
   iter_eq (f74_l0_m i0 i1 i10 i11 i13 i14 i15 i16 i17 i18 i19 i20 i21) (f74_l0 (dOps (H := H) Try.prog) C n i1 i20 i21) (fun x s nx K => f74_l0_b C n i0 i1 i10 i11 i13 i14 i15 i16 i17 i18 i19 i20 i21 x s nx K) K m x s
noncomputable def f74 (O : Ops H) (C : OracleJ H) (n : Nat) (a0 : Value) (a1 : Value) (s : St H) : Option (List (Value × St H)) :=
 (O.bop .lss 3 a1 (Go.Value.int Go.IntKind.i64 0)).bind fun v1 =>
 gd v1 (
 some [(.tuple #[(Go.Value.int Go.IntKind.u64 0), (Go.Value.int Go.IntKind.i64 0), (Go.Value.int Go.IntKind.i64 2)], s)]) (
 (O.len s 35 a0).bind fun v2 =>
 (O.bop .gtr 3 a1 v2).bind fun v3 =>
 (O.boolO v3).bind fun b6 => cond b6 (
 some [(.tuple #[(Go.Value.int Go.IntKind.u64 0), (Go.Value.int Go.IntKind.i64 0), (Go.Value.int Go.IntKind.i64 2)], s)]) (
 (O.slc s 35 a0 (some a1) none none).bind fun v7 =>
 (O.len s 35 v7).bind fun v8 =>
 iterS (f74_l0 O C n a1 v7 v8 )
 (fun i35 x36 s37 => (bif Nat.beq i35 0 then
 some [(.tuple #[(Go.Value.int Go.IntKind.u64 0), (Go.Value.int Go.IntKind.i64 0), (Go.Value.int Go.IntKind.i64 7)], s37)] else none))
 (fun x38 s39 => some [(.tuple #[x38.1, x38.2.1, x38.2.2.1], s39)]) n ((Go.Value.int Go.IntKind.u64 0), (Go.Value.int Go.IntKind.i64 0), (Go.Value.int Go.IntKind.i64 0), (Go.Value.int Go.IntKind.u64 0), undefV, undefV, (Go.Value.int Go.IntKind.i64 0), undefV) s)) (
 none)
theorem f74_l0_k (C : OracleJ H) (n : Nat) (i0 : Value) (i1 : Value) (i10 : Value) (i11 : Value) (i13 : Value) (i14 : Value) (i15 : Value) (i16 : Value) (i17 : Value) (i18 : Value) (i19 : Value) (i20 : Value) (i21 : Value) (i : Nat) (x : Value × Value × Value × Value × Value × Value × Value × Value) (s : St H) : (kBlock 0 (kSeq Try.prog false C n 74 none (cdp Try.f74 [1, 1, 1, 1]) (kFun Try.prog Try.f74))) (.exit i) (f74_l0_m i0 i1 i10 i11 i13 i14 i15 i16 i17 i18 i19 i20 i21 x) s =
 (bif Nat.beq i 0 then
 some [(.tuple #[(Go.Value.int Go.IntKind.u64 0), (Go.Value.int Go.IntKind.i64 0), (Go.Value.int Go.IntKind.i64 7)], s)] else none) := by kernel_rfl
theorem f74_r (C : OracleJ H) (n : Nat) (a0 : Value) (a1 : Value) (s : St H) : bodyD Try.prog false C n 74 Try.f74 [a0, a1] s = f74 (dOps (H := H) Try.prog) C n a0 a1 s := by
  have h1 : bodyD Try.prog false C n 74 Try.f74 [a0, a1] s =
 ((dOps (H := H) Try.prog).bop .lss 3 a1 (Go.Value.int Go.IntKind.i64 0)).bind fun v40 =>
 gd v40 (
 some [(.tuple #[(Go.Value.int Go.IntKind.u64 0), (Go.Value.int Go.IntKind.i64 0), (Go.Value.int Go.IntKind.i64 2)], s)]) (
 ((dOps (H := H) Try.prog).len s 35 a0).bind fun v41 =>
 ((dOps (H := H) Try.prog).bop .gtr 3 a1 v41).bind fun v42 =>
 ((dOps (H := H) Try.prog).boolO v42).bind fun b45 => cond b45 (
 some [(.tuple #[(Go.Value.int Go.IntKind.u64 0), (Go.Value.int Go.IntKind.i64 0), (Go.Value.int Go.IntKind.i64 2)], s)]) (
 ((dOps (H := H) Try.prog).slc s 35 a0 (some a1) none none).bind fun v46 =>
 ((dOps (H := H) Try.prog).len s 35 v46).bind fun v47 =>
 iter (fun t s k => exec Try.prog false C n 74 none (cdp Try.f74 [1, 1, 1, 0, 1, 0, 0]) t s k) (scratch (cdp Try.f74 [1, 1, 1, 0, 1, 0, 0])) n (f74_l0_m a0 a1 a1 v40 a1 a0 v41 v42 v42 a0 a1 v46 v47 ((Go.Value.int Go.IntKind.u64 0), (Go.Value.int Go.IntKind.i64 0), (Go.Value.int Go.IntKind.i64 0), (Go.Value.int Go.IntKind.u64 0), undefV, undefV, (Go.Value.int Go.IntKind.i64 0), undefV)) s (kBlock 0 (kSeq Try.prog false C n 74 none (cdp Try.f74 [1, 1, 1, 1]) (kFun Try.prog Try.f74))))) (
 none) := by kernel_rfl
  rw [h1]
  simp only [f74_l0_e, f74_l0_k]
  show _ = f74 (dOps (H := H) Try.prog) C n a0 a1 s
  kernel_rfl
/-! tidepole/label.one -/
noncomputable def f75 (O : Ops H) (C : OracleJ H) (n : Nat) (a0 : Value) (a1 : Value) (s : St H) : Option (List (Value × St H)) :=
 (O.alloc s 106).bind fun p1 =>
 (C (.fn 125) [a0, a1] p1.2).bind fun L2 => manyK L2 fun v3 s4 =>
 (O.extract v3 0).bind fun v5 =>
 (O.extract v3 1).bind fun v6 =>
 (O.extract v3 2).bind fun v7 =>
 (O.bop .neq 26 v7 (Go.Value.int Go.IntKind.i64 0)).bind fun v8 =>
 (O.boolO v8).bind fun b9 => cond b9 (
 (O.build 106 []).bind fun v10 =>
 (O.store s4 106 p1.1 v10).bind fun s11 =>
 (O.load s11 106 p1.1).bind fun v12 => some [(.tuple #[v12, (Go.Value.int Go.IntKind.i64 0), v7], s11)]) (
 (C (.fn 125) [a0, v6] s4).bind fun L13 => manyK L13 fun v14 s15 =>
 (O.extract v14 0).bind fun v16 =>
 (O.extract v14 1).bind fun v17 =>
 (O.extract v14 2).bind fun v18 =>
 (O.build 106 [(0, v5), (1, v16)]).bind fun v19 =>
 (O.store s15 106 p1.1 v19).bind fun s20 =>
 (O.load s20 106 p1.1).bind fun v21 => some [(.tuple #[v21, v17, v18], s20)])
theorem f75_r (C : OracleJ H) (n : Nat) (a0 : Value) (a1 : Value) (s : St H) : bodyD Try.prog false C n 75 Try.f75 [a0, a1] s = f75 (dOps (H := H) Try.prog) C n a0 a1 s := by kernel_rfl
/-! tidepole/rec.Check -/
def f95_l0_m (i0 : Value) (i1 : Value) (i8 : Value) (i9 : Value) (i10 : Value) (i11 : Value) (i12 : Value) (i13 : Value) (i14 : Value) (i15 : Value) (i16 : Value) (i17 : Value) (i18 : Value) (i19 : Value) (i20 : Value) (i21 : Value) (i22 : Value) (i23 : Value) (i24 : Value) (i25 : Value) (i26 : Value) (i27 : Value) (i28 : Value) (x : Value × Value) : List Value := [i0, i1, (Go.Value.int Go.IntKind.i64 0), x.1, undefV, dc, undefV, undefV, i8, i9, i10, i11, i12, i13, i14, i15, i16, i17, i18, i19, i20, i21, i22, i23, i24, i25, i26, i27, i28, x.2, dc, dc, dc, dc, dc, dc, dc, dc, dc, dc, dc, undefV, undefV, undefV, undefV, undefV, undefV, undefV, undefV, undefV, undefV, undefV, undefV, undefV, undefV, undefV, undefV, undefV, undefV, undefV, undefV, undefV, undefV, undefV]
noncomputable def f95_l0 (O : Ops H) (C : OracleJ H) (n : Nat) (i27 : Value) (i28 : Value) (nx : (Value × Value) → St H → Option (List (Value × St H))) (kx : Nat → (Value × Value) → St H → Option (List (Value × St H))) (kr : (Value × Value) → St H → Option (List (Value × St H))) (x : Value × Value) (s : St H) : Option (List (Value × St H)) :=
 (O.bop .lss 3 x.2 i28).bind fun v71 =>
 (O.boolO v71).bind fun b72 => cond b72 (
 (O.indexAddr 65 i27 x.2).bind fun v73 =>
 (O.load s 135 v73).bind fun v74 =>
 (O.alloc s 135).bind fun p75 =>
 (O.store p75.2 135 p75.1 v74).bind fun s76 =>
 jn (fun (j472_3 : Value) (js472 : St H) =>
 (O.bop .add 3 x.2 (Go.Value.int Go.IntKind.i64 1)).bind fun v83 =>
 nx (j472_3, v83) js472) fun k472 =>
 gd x.1 (
 (O.fieldAddr 135 p75.1 1).bind fun v77 =>
 (O.load s76 23 v77).bind fun v78 =>
 (C (.fn 22) [v78] s76).bind fun L79 => manyK L79 fun v80 s81 =>
 (O.bop .eql 26 v80 (Go.Value.int Go.IntKind.i64 0)).bind fun v82 =>
 k472 v82 s81) (
 k472 (.bool false) s76) (
 none)) (
 kx 0 (x.1, x.2) s)
theorem f95_l0_b (C : OracleJ H) (n : Nat) (i0 : Value) (i1 : Value) (i8 : Value) (i9 : Value) (i10 : Value) (i11 : Value) (i12 : Value) (i13 : Value) (i14 : Value) (i15 : Value) (i16 : Value) (i17 : Value) (i18 : Value) (i19 : Value) (i20 : Value) (i21 : Value) (i22 : Value) (i23 : Value) (i24 : Value) (i25 : Value) (i26 : Value) (i27 : Value) (i28 : Value) (x : Value × Value) (s : St H) (nx : List Value → St H → Option (List (Value × St H))) (K : Ex → List Value → St H → Option (List (Value × St H))) :
 exec Try.prog false C n 95 none (cdp Try.f95 [1, 1, 0, 1, 0, 0]) (f95_l0_m i0 i1 i8 i9 i10 i11 i12 i13 i14 i15 i16 i17 i18 i19 i20 i21 i22 i23 i24 i25 i26 i27 i28 x) s (kIter (scratch (cdp Try.f95 [1, 1, 0, 1, 0, 0])) nx K) = f95_l0 (dOps (H := H) Try.prog) C n i27 i28 (fun x s => nx (f95_l0_m i0 i1 i8 i9 i10 i11 i12 i13 i14 i15 i16 i17 i18 i19 i20 i21 i22 i23 i24 i25 i26 i27 i28 x) s) (fun i x s => K (.exit i) (f95_l0_m i0 i1 i8 i9 i10 i11 i12 i13 i14 i15 i16 i17 i18 i19 i20 i21 i22 i23 i24 i25 i26 i27 i28 x) s) (fun x s => K .ret (f95_l0_m i0 i1 i8 i9 i10 i11 i12 i13 i14 i15 i16 i17 i18 i19 i20 i21 i22 i23 i24 i25 i26 i27 i28 x) s) x s := by kernel_rfl
theorem f95_l0_e (C : OracleJ H) (n : Nat) (i0 : Value) (i1 : Value) (i8 : Value) (i9 : Value) (i10 : Value) (i11 : Value) (i12 : Value) (i13 : Value) (i14 : Value) (i15 : Value) (i16 : Value) (i17 : Value) (i18 : Value) (i19 : Value) (i20 : Value) (i21 : Value) (i22 : Value) (i23 : Value) (i24 : Value) (i25 : Value) (i26 : Value) (i27 : Value) (i28 : Value) (m : Nat) (x : Value × Value) (s : St H) (K : Ex → List Value → St H → Option (List (Value × St H))) :
 iter (fun t s k => exec Try.prog false C n 95 none (cdp Try.f95 [1, 1, 0, 1, 0, 0]) t s k) (scratch (cdp Try.f95 [1, 1, 0, 1, 0, 0])) m (f95_l0_m i0 i1 i8 i9 i10 i11 i12 i13 i14 i15 i16 i17 i18 i19 i20 i21 i22 i23 i24 i25 i26 i27 i28 x) s K = iterS (f95_l0 (dOps (H := H) Try.prog) C n i27 i28) (fun i x s => K (.exit i) (f95_l0_m i0 i1 i8 i9 i10 i11 i12 i13 i14 i15 i16 i17 i18 i19 i20 i21 i22 i23 i24 i25 i26 i27 i28 x) s) (fun x s => K .ret (f95_l0_m i0 i1 i8 i9 i10 i11 i12 i13 i14 i15 i16 i17 i18 i19 i20 i21 i22 i23 i24 i25 i26 i27 i28 x) s) m x s :=
   iter_eq (f95_l0_m i0 i1 i8 i9 i10 i11 i12 i13 i14 i15 i16 i17 i18 i19 i20 i21 i22 i23 i24 i25 i26 i27 i28) (f95_l0 (dOps (H := H) Try.prog) C n i27 i28) (fun x s nx K => f95_l0_b C n i0 i1 i8 i9 i10 i11 i12 i13 i14 i15 i16 i17 i18 i19 i20 i21 i22 i23 i24 i25 i26 i27 i28 x s nx K) K m x s
def f95_l1_m (i0 : Value) (i1 : Value) (i8 : Value) (i9 : Value) (i10 : Value) (i11 : Value) (i12 : Value) (i13 : Value) (i14 : Value) (i15 : Value) (i16 : Value) (i17 : Value) (i18 : Value) (i19 : Value) (i20 : Value) (i21 : Value) (i22 : Value) (i23 : Value) (i24 : Value) (i25 : Value) (i26 : Value) (i27 : Value) (i28 : Value) (i29 : Value) (i41 : Value) (i42 : Value) (i43 : Value) (x : Value × Value) : List Value := [i0, i1, (Go.Value.int Go.IntKind.i64 0), x.1, undefV, dc, undefV, dc, i8, i9, i10, i11, i12, i13, i14, i15, i16, i17, i18, i19, i20, i21, i22, i23, i24, i25, i26, i27, i28, i29, dc, dc, dc, dc, dc, dc, dc, dc, dc, dc, dc, i41, i42, i43, x.2, dc, dc, dc, dc, dc, dc, dc, dc, dc, dc, dc, dc, dc, dc, dc, dc, dc, undefV, undefV]
noncomputable def f95_l1 (O : Ops H) (C : OracleJ H) (n : Nat) (i42 : Value) (i43 : Value) (nx : (Value × Value) → St H → Option (List (Value × St H))) (kx : Nat → (Value × Value) → St H → Option (List (Value × St H))) (kr : (Value × Value) → St H → Option (List (Value × St H))) (x : Value × Value) (s : St H) : Option (List (Value × St H)) :=
 (O.bop .lss 3 x.2 i43).bind fun v92 =>
 (O.boolO v92).bind fun b93 => cond b93 (
 (O.indexAddr 66 i42 x.2).bind fun v94 =>
 (O.load s 142 v94).bind fun v95 =>
 (O.alloc s 142).bind fun p96 =>
 (O.store p96.2 142 p96.1 v95).bind fun s97 =>
 jn (fun (j480_3 : Value) (js480 : St H) =>
 (O.bop .add 3 x.2 (Go.Value.int Go.IntKind.i64 1)).bind fun v108 =>
 nx (j480_3, v108) js480) fun k480 =>
 gd x.1 (
 (O.fieldAddr 142 p96.1 0).bind fun v98 =>
 (O.load s97 70 v98).bind fun v99 =>
 (O.bop .neq 70 v99 (Go.Value.int Go.IntKind.u64 0)).bind fun v100 =>
 gd v100 (
 (O.fieldAddr 142 p96.1 1).bind fun v101 =>
 (O.fieldAddr 140 v101 0).bind fun v102 =>
 (O.load s97 3 v102).bind fun v103 =>
 (O.buildSlice false s97 228 1 [(0, v103)]).bind fun p104 =>
 (C (.fn 143) [p104.1] p104.2).bind fun L105 => manyK L105 fun v106 s107 =>
 k480 v106 s107) (
 k480 (.bool false) s97) (
 none)) (
 k480 (.bool false) s97) (
 none)) (
 kx 2 (x.1, x.2) s)
theorem f95_l1_b (C : OracleJ H) (n : Nat) (i0 : Value) (i1 : Value) (i8 : Value) (i9 : Value) (i10 : Value) (i11 : Value) (i12 : Value) (i13 : Value) (i14 : Value) (i15 : Value) (i16 : Value) (i17 : Value) (i18 : Value) (i19 : Value) (i20 : Value) (i21 : Value) (i22 : Value) (i23 : Value) (i24 : Value) (i25 : Value) (i26 : Value) (i27 : Value) (i28 : Value) (i29 : Value) (i41 : Value) (i42 : Value) (i43 : Value) (x : Value × Value) (s : St H) (nx : List Value → St H → Option (List (Value × St H))) (K : Ex → List Value → St H → Option (List (Value × St H))) :
 exec Try.prog false C n 95 none (cdp Try.f95 [1, 1, 1, 0, 1, 0, 0]) (f95_l1_m i0 i1 i8 i9 i10 i11 i12 i13 i14 i15 i16 i17 i18 i19 i20 i21 i22 i23 i24 i25 i26 i27 i28 i29 i41 i42 i43 x) s (kIter (scratch (cdp Try.f95 [1, 1, 1, 0, 1, 0, 0])) nx K) = f95_l1 (dOps (H := H) Try.prog) C n i42 i43 (fun x s => nx (f95_l1_m i0 i1 i8 i9 i10 i11 i12 i13 i14 i15 i16 i17 i18 i19 i20 i21 i22 i23 i24 i25 i26 i27 i28 i29 i41 i42 i43 x) s) (fun i x s => K (.exit i) (f95_l1_m i0 i1 i8 i9 i10 i11 i12 i13 i14 i15 i16 i17 i18 i19 i20 i21 i22 i23 i24 i25 i26 i27 i28 i29 i41 i42 i43 x) s) (fun x s => K .ret (f95_l1_m i0 i1 i8 i9 i10 i11 i12 i13 i14 i15 i16 i17 i18 i19 i20 i21 i22 i23 i24 i25 i26 i27 i28 i29 i41 i42 i43 x) s) x s := by kernel_rfl
theorem f95_l1_e (C : OracleJ H) (n : Nat) (i0 : Value) (i1 : Value) (i8 : Value) (i9 : Value) (i10 : Value) (i11 : Value) (i12 : Value) (i13 : Value) (i14 : Value) (i15 : Value) (i16 : Value) (i17 : Value) (i18 : Value) (i19 : Value) (i20 : Value) (i21 : Value) (i22 : Value) (i23 : Value) (i24 : Value) (i25 : Value) (i26 : Value) (i27 : Value) (i28 : Value) (i29 : Value) (i41 : Value) (i42 : Value) (i43 : Value) (m : Nat) (x : Value × Value) (s : St H) (K : Ex → List Value → St H → Option (List (Value × St H))) :
 iter (fun t s k => exec Try.prog false C n 95 none (cdp Try.f95 [1, 1, 1, 0, 1, 0, 0]) t s k) (scratch (cdp Try.f95 [1, 1, 1, 0, 1, 0, 0])) m (f95_l1_m i0 i1 i8 i9 i10 i11 i12 i13 i14 i15 i16 i17 i18 i19 i20 i21 i22 i23 i24 i25 i26 i27 i28 i29 i41 i42 i43 x) s K = iterS (f95_l1 (dOps (H := H) Try.prog) C n i42 i43) (fun i x s => K (.exit i) (f95_l1_m i0 i1 i8 i9 i10 i11 i12 i13 i14 i15 i16 i17 i18 i19 i20 i21 i22 i23 i24 i25 i26 i27 i28 i29 i41 i42 i43 x) s) (fun x s => K .ret (f95_l1_m i0 i1 i8 i9 i10 i11 i12 i13 i14 i15 i16 i17 i18 i19 i20 i21 i22 i23 i24 i25 i26 i27 i28 i29 i41 i42 i43 x) s) m x s :=
   iter_eq (f95_l1_m i0 i1 i8 i9 i10 i11 i12 i13 i14 i15 i16 i17 i18 i19 i20 i21 i22 i23 i24 i25 i26 i27 i28 i29 i41 i42 i43) (f95_l1 (dOps (H := H) Try.prog) C n i42 i43) (fun x s nx K => f95_l1_b C n i0 i1 i8 i9 i10 i11 i12 i13 i14 i15 i16 i17 i18 i19 i20 i21 i22 i23 i24 i25 i26 i27 i28 i29 i41 i42 i43 x s nx K) K m x s
noncomputable def f95 (O : Ops H) (C : OracleJ H) (n : Nat) (a0 : Value) (s : St H) : Option (List (Value × St H)) :=
 (O.box s a0).bind fun p1 =>
 jn (fun (j445_3 : Value) (js445 : St H) =>
 (O.fieldAddr 72 p1.1 1).bind fun v68 =>
 (O.load js445 65 v68).bind fun v69 =>
 (O.len js445 65 v69).bind fun v70 =>
 iterS (f95_l0 O C n v69 v70 )
 (fun i84 x85 s86 => (bif Nat.beq i84 0 then
 (O.fieldAddr 72 p1.1 2).bind fun v89 =>
 (O.load s86 66 v89).bind fun v90 =>
 (O.len s86 66 v90).bind fun v91 =>
 iterS (f95_l1 O C n v90 v91 )
 (fun i109 x110 s111 => (bif Nat.beq i109 2 then
 (O.uop .not x110.1).bind fun v114 =>
 (O.boolO v114).bind fun b115 => cond b115 (
 some [((Go.Value.int Go.IntKind.i64 190), s111)]) (
 some [((Go.Value.int Go.IntKind.i64 0), s111)]) else none))
 (fun x112 s113 => some [((Go.Value.int Go.IntKind.i64 0), s113)]) n (x85.1, (Go.Value.int Go.IntKind.i64 0)) s86 else none))
 (fun x87 s88 => some [((Go.Value.int Go.IntKind.i64 0), s88)]) n (j445_3, (Go.Value.int Go.IntKind.i64 0)) js445) fun k445 =>
 (O.load p1.2 72 p1.1).bind fun v2 =>
 (C (.fn 138) [v2] p1.2).bind fun L3 => manyK L3 fun v4 s5 =>
 gd v4 (
 (O.fieldAddr 72 p1.1 1).bind fun v6 =>
 (O.load s5 65 v6).bind fun v7 =>
 (C (.fn 139) [v7, (.func (.func 140) #[] #[])] s5).bind fun L8 => manyK L8 fun v9 s10 =>
 gd v9 (
 (O.fieldAddr 72 p1.1 3).bind fun v11 =>
 (O.load s10 67 v11).bind fun v12 =>
 (C (.fn 141) [v12, (.func (.func 142) #[] #[])] s10).bind fun L13 => manyK L13 fun v14 s15 =>
 gd v14 (
 (O.fieldAddr 72 p1.1 2).bind fun v16 =>
 (O.load s15 66 v16).bind fun v17 =>
 (O.len s15 66 v17).bind fun v18 =>
 (O.bop .leq 3 v18 (Go.Value.int Go.IntKind.i64 4096)).bind fun v19 =>
 k445 v19 s15) (
 k445 (.bool false) s15) (
 none)) (
 k445 (.bool false) s10) (
 none)) (
 k445 (.bool false) s5) (
 none)
theorem f95_l1_k (C : OracleJ H) (n : Nat) (i0 : Value) (i1 : Value) (i8 : Value) (i9 : Value) (i10 : Value) (i11 : Value) (i12 : Value) (i13 : Value) (i14 : Value) (i15 : Value) (i16 : Value) (i17 : Value) (i18 : Value) (i19 : Value) (i20 : Value) (i21 : Value) (i22 : Value) (i23 : Value) (i24 : Value) (i25 : Value) (i26 : Value) (i27 : Value) (i28 : Value) (i29 : Value) (i41 : Value) (i42 : Value) (i43 : Value) (i : Nat) (x : Value × Value) (s : St H) : (kBlock 2 (kSeq Try.prog false C n 95 none (cdp Try.f95 [1, 1, 1, 1]) (kFun Try.prog Try.f95))) (.exit i) (f95_l1_m i0 i1 i8 i9 i10 i11 i12 i13 i14 i15 i16 i17 i18 i19 i20 i21 i22 i23 i24 i25 i26 i27 i28 i29 i41 i42 i43 x) s =
 (bif Nat.beq i 2 then
 ((dOps (H := H) Try.prog).uop .not x.1).bind fun v146 =>
 ((dOps (H := H) Try.prog).boolO v146).bind fun b147 => cond b147 (
 some [((Go.Value.int Go.IntKind.i64 190), s)]) (
 some [((Go.Value.int Go.IntKind.i64 0), s)]) else none) := by kernel_rfl
theorem f95_l0_k (C : OracleJ H) (n : Nat) (i0 : Value) (i1 : Value) (i8 : Value) (i9 : Value) (i10 : Value) (i11 : Value) (i12 : Value) (i13 : Value) (i14 : Value) (i15 : Value) (i16 : Value) (i17 : Value) (i18 : Value) (i19 : Value) (i20 : Value) (i21 : Value) (i22 : Value) (i23 : Value) (i24 : Value) (i25 : Value) (i26 : Value) (i27 : Value) (i28 : Value) (i : Nat) (x : Value × Value) (s : St H) : (kBlock 0 (kSeq Try.prog false C n 95 none (cdp Try.f95 [1, 1, 1]) (kFun Try.prog Try.f95))) (.exit i) (f95_l0_m i0 i1 i8 i9 i10 i11 i12 i13 i14 i15 i16 i17 i18 i19 i20 i21 i22 i23 i24 i25 i26 i27 i28 x) s =
 (bif Nat.beq i 0 then
 ((dOps (H := H) Try.prog).fieldAddr 72 i1 2).bind fun v148 =>
 ((dOps (H := H) Try.prog).load s 66 v148).bind fun v149 =>
 ((dOps (H := H) Try.prog).len s 66 v149).bind fun v150 =>
 iterS (f95_l1 (dOps (H := H) Try.prog) C n v149 v150 )
 (fun i151 x152 s153 => (bif Nat.beq i151 2 then
 ((dOps (H := H) Try.prog).uop .not x152.1).bind fun v156 =>
 ((dOps (H := H) Try.prog).boolO v156).bind fun b157 => cond b157 (
 some [((Go.Value.int Go.IntKind.i64 190), s153)]) (
 some [((Go.Value.int Go.IntKind.i64 0), s153)]) else none))
 (fun x154 s155 => some [((Go.Value.int Go.IntKind.i64 0), s155)]) n (x.1, (Go.Value.int Go.IntKind.i64 0)) s else none) := by
  have h1 : (kBlock 0 (kSeq Try.prog false C n 95 none (cdp Try.f95 [1, 1, 1]) (kFun Try.prog Try.f95))) (.exit i) (f95_l0_m i0 i1 i8 i9 i10 i11 i12 i13 i14 i15 i16 i17 i18 i19 i20 i21 i22 i23 i24 i25 i26 i27 i28 x) s =
 (bif Nat.beq i 0 then
 ((dOps (H := H) Try.prog).fieldAddr 72 i1 2).bind fun v141 =>
 ((dOps (H := H) Try.prog).load s 66 v141).bind fun v142 =>
 ((dOps (H := H) Try.prog).len s 66 v142).bind fun v143 =>
 iter (fun t s k => exec Try.prog false C n 95 none (cdp Try.f95 [1, 1, 1, 0, 1, 0, 0]) t s k) (scratch (cdp Try.f95 [1, 1, 1, 0, 1, 0, 0])) n (f95_l1_m i0 i1 i8 i9 i10 i11 i12 i13 i14 i15 i16 i17 i18 i19 i20 i21 i22 i23 i24 i25 i26 i27 i28 x.2 v141 v142 v143 (x.1, (Go.Value.int Go.IntKind.i64 0))) s (kBlock 2 (kSeq Try.prog false C n 95 none (cdp Try.f95 [1, 1, 1, 1]) (kFun Try.prog Try.f95))) else none) := by kernel_rfl
  rw [h1]
  simp only [f95_l1_e, f95_l1_k]
  show _ = (bif Nat.beq i 0 then
 ((dOps (H := H) Try.prog).fieldAddr 72 i1 2).bind fun v148 =>
 ((dOps (H := H) Try.prog).load s 66 v148).bind fun v149 =>
 ((dOps (H := H) Try.prog).len s 66 v149).bind fun v150 =>
 iterS (f95_l1 (dOps (H := H) Try.prog) C n v149 v150 )
 (fun i151 x152 s153 => (bif Nat.beq i151 2 then
 ((dOps (H := H) Try.prog).uop .not x152.1).bind fun v156 =>
 ((dOps (H := H) Try.prog).boolO v156).bind fun b157 => cond b157 (
 some [((Go.Value.int Go.IntKind.i64 190), s153)]) (
 some [((Go.Value.int Go.IntKind.i64 0), s153)]) else none))
 (fun x154 s155 => some [((Go.Value.int Go.IntKind.i64 0), s155)]) n (x.1, (Go.Value.int Go.IntKind.i64 0)) s else none)
  kernel_rfl
theorem f95_r (C : OracleJ H) (n : Nat) (a0 : Value) (s : St H) : bodyD Try.prog false C n 95 Try.f95 [a0] s = f95 (dOps (H := H) Try.prog) C n a0 s := by
  have h1 : bodyD Try.prog false C n 95 Try.f95 [a0] s =
 ((dOps (H := H) Try.prog).box s a0).bind fun p116 =>
 jn (fun (j487_3 : Value) (j487_8 : Value) (j487_9 : Value) (j487_10 : Value) (j487_11 : Value) (j487_12 : Value) (j487_13 : Value) (j487_14 : Value) (j487_15 : Value) (j487_16 : Value) (j487_17 : Value) (j487_18 : Value) (j487_19 : Value) (j487_20 : Value) (j487_21 : Value) (j487_22 : Value) (j487_23 : Value) (j487_24 : Value) (j487_25 : Value) (js487 : St H) =>
 ((dOps (H := H) Try.prog).fieldAddr 72 p116.1 1).bind fun v138 =>
 ((dOps (H := H) Try.prog).load js487 65 v138).bind fun v139 =>
 ((dOps (H := H) Try.prog).len js487 65 v139).bind fun v140 =>
 iter (fun t s k => exec Try.prog false C n 95 none (cdp Try.f95 [1, 1, 0, 1, 0, 0]) t s k) (scratch (cdp Try.f95 [1, 1, 0, 1, 0, 0])) n (f95_l0_m a0 p116.1 j487_8 j487_9 j487_10 j487_11 j487_12 j487_13 j487_14 j487_15 j487_16 j487_17 j487_18 j487_19 j487_20 j487_21 j487_22 j487_23 j487_24 j487_25 v138 v139 v140 (j487_3, (Go.Value.int Go.IntKind.i64 0))) js487 (kBlock 0 (kSeq Try.prog false C n 95 none (cdp Try.f95 [1, 1, 1]) (kFun Try.prog Try.f95)))) fun k487 =>
 ((dOps (H := H) Try.prog).load p116.2 72 p116.1).bind fun v117 =>
 (C (.fn 138) [v117] p116.2).bind fun L118 => manyK L118 fun v119 s120 =>
 gd v119 (
 ((dOps (H := H) Try.prog).fieldAddr 72 p116.1 1).bind fun v121 =>
 ((dOps (H := H) Try.prog).load s120 65 v121).bind fun v122 =>
 (C (.fn 139) [v122, (.func (.func 140) #[] #[])] s120).bind fun L123 => manyK L123 fun v124 s125 =>
 gd v124 (
 ((dOps (H := H) Try.prog).fieldAddr 72 p116.1 3).bind fun v126 =>
 ((dOps (H := H) Try.prog).load s125 67 v126).bind fun v127 =>
 (C (.fn 141) [v127, (.func (.func 142) #[] #[])] s125).bind fun L128 => manyK L128 fun v129 s130 =>
 gd v129 (
 ((dOps (H := H) Try.prog).fieldAddr 72 p116.1 2).bind fun v131 =>
 ((dOps (H := H) Try.prog).load s130 66 v131).bind fun v132 =>
 ((dOps (H := H) Try.prog).len s130 66 v132).bind fun v133 =>
 ((dOps (H := H) Try.prog).bop .leq 3 v133 (Go.Value.int Go.IntKind.i64 4096)).bind fun v134 =>
 k487 v134 v117 v119 (.bool true) v121 v122 v124 v124 (.bool true) v126 v127 v129 v129 (.bool true) v131 v132 v133 v134 v134 s130) (
 k487 (.bool false) v117 v119 (.bool true) v121 v122 v124 v124 (.bool true) v126 v127 v129 v129 (.bool false) undefV undefV undefV undefV (.bool false) s130) (
 none)) (
 k487 (.bool false) v117 v119 (.bool true) v121 v122 v124 v124 (.bool false) undefV undefV undefV (.bool false) (.bool false) undefV undefV undefV undefV (.bool false) s125) (
 none)) (
 k487 (.bool false) v117 v119 (.bool false) undefV undefV undefV (.bool false) (.bool false) undefV undefV undefV (.bool false) (.bool false) undefV undefV undefV undefV (.bool false) s120) (
 none) := by kernel_rfl
  rw [h1]
  simp only [f95_l0_e, f95_l0_k]
  show _ = f95 (dOps (H := H) Try.prog) C n a0 s
  kernel_rfl
/-! (*tidepole/rec.writer).named -/
noncomputable def f96 (O : Ops H) (C : OracleJ H) (n : Nat) (a0 : Value) (a1 : Value) (s : St H) : Option (List (Value × St H)) :=
 (O.box s a0).bind fun p1 =>
 (O.load p1.2 145 p1.1).bind fun v2 =>
 (C (.fn 144) [v2, a1, (.func (.func 140) #[] #[]), (.func (.func 145) #[] #[p1.1])] p1.2).bind fun L3 => manyK L3 fun v4 s5 =>
 some [(.tuple #[], s5)]
theorem f96_r (C : OracleJ H) (n : Nat) (a0 : Value) (a1 : Value) (s : St H) : bodyD Try.prog false C n 96 Try.f96 [a0, a1] s = f96 (dOps (H := H) Try.prog) C n a0 a1 s := by kernel_rfl
/-! (*tidepole/rec.writer).points -/
def f97_l1_m (i0 : Value) (i1 : Value) (i4 : Value) (i6 : Value) (i8 : Value) (i9 : Value) (i10 : Value) (i11 : Value) (i12 : Value) (i13 : Value) (i14 : Value) (i15 : Value) (i16 : Value) (i17 : Value) (i18 : Value) (i19 : Value) (i20 : Value) (i21 : Value) (i22 : Value) (i23 : Value) (i24 : Value) (i25 : Value) (i26 : Value) (i27 : Value) (i28 : Value) (i29 : Value) (i30 : Value) (i31 : Value) (i32 : Value) (i33 : Value) (i34 : Value) (i35 : Value) (x : Value × Value) : List Value := [i0, i1, undefV, undefV, i4, undefV, i6, x.1, i8, i9, i10, i11, i12, i13, i14, i15, i16, i17, i18, i19, i20, i21, i22, i23, i24, i25, i26, i27, i28, i29, i30, i31, i32, i33, i34, i35, x.2, dc, dc, dc, dc, dc, dc, dc, dc, dc, dc, dc, dc, dc, dc, dc, dc, dc, dc, dc, dc, dc, dc, dc]
noncomputable def f97_l1 (O : Ops H) (C : OracleJ H) (n : Nat) (i0 : Value) (i6 : Value) (nx : (Value × Value) → St H → Option (List (Value × St H))) (kx : Nat → (Value × Value) → St H → Option (List (Value × St H))) (kr : (Value × Value) → St H → Option (List (Value × St H))) (x : Value × Value) (s : St H) : Option (List (Value × St H)) :=
 (O.bop .lss 3 x.2 (Go.Value.int Go.IntKind.i64 8)).bind fun v29 =>
 (O.boolO v29).bind fun b30 => cond b30 (
 (O.nilCheck i0).bind fun v31 =>
 (O.fieldAddr 147 v31 0).bind fun v32 =>
 (O.load s 35 v32).bind fun v33 =>
 (O.fieldAddr 142 i6 1).bind fun v34 =>
 (O.fieldAddr 140 v34 1).bind fun v35 =>
 (O.load s 70 v35).bind fun v36 =>
 (O.bop .mul 3 (Go.Value.int Go.IntKind.i64 8) x.2).bind fun v37 =>
 (O.bop .shr 70 v36 v37).bind fun v38 =>
 (O.conv false s 70 5 v38).bind fun p39 =>
 (O.buildSlice false p39.2 35 1 [(0, p39.1)]).bind fun p40 =>
 (O.append false p40.2 35 35 v33 p40.1).bind fun p41 =>
 (O.nilCheck i0).bind fun v42 =>
 (O.fieldAddr 147 v42 0).bind fun v43 =>
 (O.store p41.2 35 v43 p41.1).bind fun s44 =>
 (O.bop .add 3 x.2 (Go.Value.int Go.IntKind.i64 1)).bind fun v45 =>
 nx (x.2, v45) s44) (
 kx 2 (x.1, x.2) s)
theorem f97_l1_b (C : OracleJ H) (n : Nat) (i0 : Value) (i1 : Value) (i4 : Value) (i6 : Value) (i8 : Value) (i9 : Value) (i10 : Value) (i11 : Value) (i12 : Value) (i13 : Value) (i14 : Value) (i15 : Value) (i16 : Value) (i17 : Value) (i18 : Value) (i19 : Value) (i20 : Value) (i21 : Value) (i22 : Value) (i23 : Value) (i24 : Value) (i25 : Value) (i26 : Value) (i27 : Value) (i28 : Value) (i29 : Value) (i30 : Value) (i31 : Value) (i32 : Value) (i33 : Value) (i34 : Value) (i35 : Value) (x : Value × Value) (s : St H) (nx : List Value → St H → Option (List (Value × St H))) (K : Ex → List Value → St H → Option (List (Value × St H))) :
 exec Try.prog false C n 97 none (cdp Try.f97 [1, 1, 1, 0, 0, 1, 1, 0, 0, 1, 1, 1, 0, 1, 0, 0]) (f97_l1_m i0 i1 i4 i6 i8 i9 i10 i11 i12 i13 i14 i15 i16 i17 i18 i19 i20 i21 i22 i23 i24 i25 i26 i27 i28 i29 i30 i31 i32 i33 i34 i35 x) s (kIter (scratch (cdp Try.f97 [1, 1, 1, 0, 0, 1, 1, 0, 0, 1, 1, 1, 0, 1, 0, 0])) nx K) = f97_l1 (dOps (H := H) Try.prog) C n i0 i6 (fun x s => nx (f97_l1_m i0 i1 i4 i6 i8 i9 i10 i11 i12 i13 i14 i15 i16 i17 i18 i19 i20 i21 i22 i23 i24 i25 i26 i27 i28 i29 i30 i31 i32 i33 i34 i35 x) s) (fun i x s => K (.exit i) (f97_l1_m i0 i1 i4 i6 i8 i9 i10 i11 i12 i13 i14 i15 i16 i17 i18 i19 i20 i21 i22 i23 i24 i25 i26 i27 i28 i29 i30 i31 i32 i33 i34 i35 x) s) (fun x s => K .ret (f97_l1_m i0 i1 i4 i6 i8 i9 i10 i11 i12 i13 i14 i15 i16 i17 i18 i19 i20 i21 i22 i23 i24 i25 i26 i27 i28 i29 i30 i31 i32 i33 i34 i35 x) s) x s := by kernel_rfl
theorem f97_l1_e (C : OracleJ H) (n : Nat) (i0 : Value) (i1 : Value) (i4 : Value) (i6 : Value) (i8 : Value) (i9 : Value) (i10 : Value) (i11 : Value) (i12 : Value) (i13 : Value) (i14 : Value) (i15 : Value) (i16 : Value) (i17 : Value) (i18 : Value) (i19 : Value) (i20 : Value) (i21 : Value) (i22 : Value) (i23 : Value) (i24 : Value) (i25 : Value) (i26 : Value) (i27 : Value) (i28 : Value) (i29 : Value) (i30 : Value) (i31 : Value) (i32 : Value) (i33 : Value) (i34 : Value) (i35 : Value) (m : Nat) (x : Value × Value) (s : St H) (K : Ex → List Value → St H → Option (List (Value × St H))) :
 iter (fun t s k => exec Try.prog false C n 97 none (cdp Try.f97 [1, 1, 1, 0, 0, 1, 1, 0, 0, 1, 1, 1, 0, 1, 0, 0]) t s k) (scratch (cdp Try.f97 [1, 1, 1, 0, 0, 1, 1, 0, 0, 1, 1, 1, 0, 1, 0, 0])) m (f97_l1_m i0 i1 i4 i6 i8 i9 i10 i11 i12 i13 i14 i15 i16 i17 i18 i19 i20 i21 i22 i23 i24 i25 i26 i27 i28 i29 i30 i31 i32 i33 i34 i35 x) s K = iterS (f97_l1 (dOps (H := H) Try.prog) C n i0 i6) (fun i x s => K (.exit i) (f97_l1_m i0 i1 i4 i6 i8 i9 i10 i11 i12 i13 i14 i15 i16 i17 i18 i19 i20 i21 i22 i23 i24 i25 i26 i27 i28 i29 i30 i31 i32 i33 i34 i35 x) s) (fun x s => K .ret (f97_l1_m i0 i1 i4 i6 i8 i9 i10 i11 i12 i13 i14 i15 i16 i17 i18 i19 i20 i21 i22 i23 i24 i25 i26 i27 i28 i29 i30 i31 i32 i33 i34 i35 x) s) m x s :=
   iter_eq (f97_l1_m i0 i1 i4 i6 i8 i9 i10 i11 i12 i13 i14 i15 i16 i17 i18 i19 i20 i21 i22 i23 i24 i25 i26 i27 i28 i29 i30 i31 i32 i33 i34 i35) (f97_l1 (dOps (H := H) Try.prog) C n i0 i6) (fun x s nx K => f97_l1_b C n i0 i1 i4 i6 i8 i9 i10 i11 i12 i13 i14 i15 i16 i17 i18 i19 i20 i21 i22 i23 i24 i25 i26 i27 i28 i29 i30 i31 i32 i33 i34 i35 x s nx K) K m x s
def f97_l0_m (i0 : Value) (i1 : Value) (i8 : Value) (i9 : Value) (i10 : Value) (i11 : Value) (i12 : Value) (i13 : Value) (i14 : Value) (x : Value × Value × Value) : List Value := [i0, i1, undefV, undefV, x.1, undefV, dc, x.2.1, i8, i9, i10, i11, i12, i13, i14, x.2.2, dc, dc, dc, dc, dc, dc, dc, dc, dc, dc, dc, dc, dc, dc, dc, dc, dc, dc, dc, dc, dc, dc, dc, dc, dc, dc, dc, dc, dc, dc, dc, dc, dc, dc, dc, dc, dc, dc, dc, dc, dc, dc, dc, dc]
noncomputable def f97_l0 (O : Ops H) (C : OracleJ H) (n : Nat) (i0 : Value) (i13 : Value) (i14 : Value) (nx : (Value × Value × Value) → St H → Option (List (Value × St H))) (kx : Nat → (Value × Value × Value) → St H → Option (List (Value × St H))) (kr : (Value × Value × Value) → St H → Option (List (Value × St H))) (x : Value × Value × Value) (s : St H) : Option (List (Value × St H)) :=
 (O.bop .lss 3 x.2.2 i14).bind fun v7 =>
 (O.boolO v7).bind fun b8 => cond b8 (
 (O.indexAddr 66 i13 x.2.2).bind fun v9 =>
 (O.load s 142 v9).bind fun v10 =>
 (O.alloc s 142).bind fun p11 =>
 (O.store p11.2 142 p11.1 v10).bind fun s12 =>
 (O.fieldAddr 142 p11.1 0).bind fun v13 =>
 (O.load s12 70 v13).bind fun v14 =>
 (C (.fn 99) [i0, v14] s12).bind fun L15 => manyK L15 fun v16 s17 =>
 (O.nilCheck i0).bind fun v18 =>
 (O.fieldAddr 147 v18 0).bind fun v19 =>
 (O.load s17 35 v19).bind fun v20 =>
 (O.fieldAddr 142 p11.1 1).bind fun v21 =>
 (O.fieldAddr 140 v21 0).bind fun v22 =>
 (O.load s17 3 v22).bind fun v23 =>
 (O.bop .sub 3 v23 x.1).bind fun v24 =>
 (oneO C (.fn 146) [v20, v24] s17).bind fun p25 =>
 (O.nilCheck i0).bind fun v26 =>
 (O.fieldAddr 147 v26 0).bind fun v27 =>
 (O.store p25.2 35 v27 p25.1).bind fun s28 =>
 iterS (f97_l1 O C n i0 p11.1 )
 (fun i46 x47 s48 => (bif Nat.beq i46 2 then
 (O.fieldAddr 142 p11.1 1).bind fun v51 =>
 (O.fieldAddr 140 v51 0).bind fun v52 =>
 (O.load s48 3 v52).bind fun v53 =>
 (O.bop .add 3 x.2.2 (Go.Value.int Go.IntKind.i64 1)).bind fun v56 =>
 nx (v53, x47.1, v56) s48 else (bif Nat.beq i46 1 then
 (O.bop .add 3 x.2.2 (Go.Value.int Go.IntKind.i64 1)).bind fun v55 =>
 nx (x.1, x47.1, v55) s48 else kx i46 (x.1, x47.1, x.2.2) s48)))
 (fun x49 s50 => kr (x.1, x49.1, x.2.2) s50) n (x.2.1, (Go.Value.int Go.IntKind.i64 0)) s28) (
 kx 0 (x.1, x.2.1, x.2.2) s)
theorem f97_l1_k (C : OracleJ H) (n : Nat) (i0 : Value) (i1 : Value) (i4 : Value) (i6 : Value) (i8 : Value) (i9 : Value) (i10 : Value) (i11 : Value) (i12 : Value) (i13 : Value) (i14 : Value) (i15 : Value) (i16 : Value) (i17 : Value) (i18 : Value) (i19 : Value) (i20 : Value) (i21 : Value) (i22 : Value) (i23 : Value) (i24 : Value) (i25 : Value) (i26 : Value) (i27 : Value) (i28 : Value) (i29 : Value) (i30 : Value) (i31 : Value) (i32 : Value) (i33 : Value) (i34 : Value) (i35 : Value) (nx : List Value → St H → Option (List (Value × St H))) (K : Ex → List Value → St H → Option (List (Value × St H))) (i : Nat) (x : Value × Value) (s : St H) : (kBlock 2 (kSeq Try.prog false C n 97 none (cdp Try.f97 [1, 1, 1, 0, 0, 1, 1, 0, 0, 1, 1, 1, 1]) (kBlock 1 (kSeq Try.prog false C n 97 none (cdp Try.f97 [1, 1, 1, 0, 0, 1, 1, 1]) (kIter (scratch (cdp Try.f97 [1, 1, 1, 0, 0])) nx K))))) (.exit i) (f97_l1_m i0 i1 i4 i6 i8 i9 i10 i11 i12 i13 i14 i15 i16 i17 i18 i19 i20 i21 i22 i23 i24 i25 i26 i27 i28 i29 i30 i31 i32 i33 i34 i35 x) s =
 (bif Nat.beq i 2 then
 ((dOps (H := H) Try.prog).fieldAddr 142 i6 1).bind fun v84 =>
 ((dOps (H := H) Try.prog).fieldAddr 140 v84 0).bind fun v85 =>
 ((dOps (H := H) Try.prog).load s 3 v85).bind fun v86 =>
 ((dOps (H := H) Try.prog).bop .add 3 i15 (Go.Value.int Go.IntKind.i64 1)).bind fun v87 =>
 nx (f97_l0_m i0 i1 i8 i9 i10 i11 i12 i13 i14 (v86, x.1, v87)) s else (bif Nat.beq i 1 then
 ((dOps (H := H) Try.prog).bop .add 3 i15 (Go.Value.int Go.IntKind.i64 1)).bind fun v88 =>
 nx (f97_l0_m i0 i1 i8 i9 i10 i11 i12 i13 i14 (i4, x.1, v88)) s else K (.exit i) (f97_l0_m i0 i1 i8 i9 i10 i11 i12 i13 i14 (i4, x.1, i15)) s)) := by kernel_rfl
theorem f97_l0_b (C : OracleJ H) (n : Nat) (i0 : Value) (i1 : Value) (i8 : Value) (i9 : Value) (i10 : Value) (i11 : Value) (i12 : Value) (i13 : Value) (i14 : Value) (x : Value × Value × Value) (s : St H) (nx : List Value → St H → Option (List (Value × St H))) (K : Ex → List Value → St H → Option (List (Value × St H))) :
 exec Try.prog false C n 97 none (cdp Try.f97 [1, 1, 1, 0, 0]) (f97_l0_m i0 i1 i8 i9 i10 i11 i12 i13 i14 x) s (kIter (scratch (cdp Try.f97 [1, 1, 1, 0, 0])) nx K) = f97_l0 (dOps (H := H) Try.prog) C n i0 i13 i14 (fun x s => nx (f97_l0_m i0 i1 i8 i9 i10 i11 i12 i13 i14 x) s) (fun i x s => K (.exit i) (f97_l0_m i0 i1 i8 i9 i10 i11 i12 i13 i14 x) s) (fun x s => K .ret (f97_l0_m i0 i1 i8 i9 i10 i11 i12 i13 i14 x) s) x s := by
  have h1 : exec Try.prog false C n 97 none (cdp Try.f97 [1, 1, 1, 0, 0]) (f97_l0_m i0 i1 i8 i9 i10 i11 i12 i13 i14 x) s (kIter (scratch (cdp Try.f97 [1, 1, 1, 0, 0])) nx K) =
 ((dOps (H := H) Try.prog).bop .lss 3 x.2.2 i14).bind fun v57 =>
 ((dOps (H := H) Try.prog).boolO v57).bind fun b58 => cond b58 (
 ((dOps (H := H) Try.prog).indexAddr 66 i13 x.2.2).bind fun v59 =>
 ((dOps (H := H) Try.prog).load s 142 v59).bind fun v60 =>
 ((dOps (H := H) Try.prog).alloc s 142).bind fun p61 =>
 ((dOps (H := H) Try.prog).store p61.2 142 p61.1 v60).bind fun s62 =>
 ((dOps (H := H) Try.prog).fieldAddr 142 p61.1 0).bind fun v63 =>
 ((dOps (H := H) Try.prog).load s62 70 v63).bind fun v64 =>
 (C (.fn 99) [i0, v64] s62).bind fun L65 => manyK L65 fun v66 s67 =>
 ((dOps (H := H) Try.prog).nilCheck i0).bind fun v68 =>
 ((dOps (H := H) Try.prog).fieldAddr 147 v68 0).bind fun v69 =>
 ((dOps (H := H) Try.prog).load s67 35 v69).bind fun v70 =>
 ((dOps (H := H) Try.prog).fieldAddr 142 p61.1 1).bind fun v71 =>
 ((dOps (H := H) Try.prog).fieldAddr 140 v71 0).bind fun v72 =>
 ((dOps (H := H) Try.prog).load s67 3 v72).bind fun v73 =>
 ((dOps (H := H) Try.prog).bop .sub 3 v73 x.1).bind fun v74 =>
 (oneO C (.fn 146) [v70, v74] s67).bind fun p75 =>
 ((dOps (H := H) Try.prog).nilCheck i0).bind fun v76 =>
 ((dOps (H := H) Try.prog).fieldAddr 147 v76 0).bind fun v77 =>
 ((dOps (H := H) Try.prog).store p75.2 35 v77 p75.1).bind fun s78 =>
 iter (fun t s k => exec Try.prog false C n 97 none (cdp Try.f97 [1, 1, 1, 0, 0, 1, 1, 0, 0, 1, 1, 1, 0, 1, 0, 0]) t s k) (scratch (cdp Try.f97 [1, 1, 1, 0, 0, 1, 1, 0, 0, 1, 1, 1, 0, 1, 0, 0])) n (f97_l1_m i0 i1 x.1 p61.1 i8 i9 i10 i11 i12 i13 i14 x.2.2 v57 v59 v60 i0 v63 v64 v66 i0 i0 v68 v69 v70 v71 v72 v73 x.1 v74 p75.1 v76 v77 (x.2.1, (Go.Value.int Go.IntKind.i64 0))) s78 (kBlock 2 (kSeq Try.prog false C n 97 none (cdp Try.f97 [1, 1, 1, 0, 0, 1, 1, 0, 0, 1, 1, 1, 1]) (kBlock 1 (kSeq Try.prog false C n 97 none (cdp Try.f97 [1, 1, 1, 0, 0, 1, 1, 1]) (kIter (scratch (cdp Try.f97 [1, 1, 1, 0, 0])) nx K)))))) (
 K (.exit 0) (f97_l0_m i0 i1 i8 i9 i10 i11 i12 i13 i14 (x.1, x.2.1, x.2.2)) s) := by kernel_rfl
  rw [h1]
  simp only [f97_l1_e, f97_l1_k]
  show _ = f97_l0 (dOps (H := H) Try.prog) C n i0 i13 i14 (fun x s => nx (f97_l0_m i0 i1 i8 i9 i10 i11 i12 i13 i14 x) s) (fun i x s => K (.exit i) (f97_l0_m i0 i1 i8 i9 i10 i11 i12 i13 i14 x) s) (fun x s => K .ret (f97_l0_m i0 i1 i8 i9 i10 i11 i12 i13 i14 x) s) x s
  kernel_rfl
theorem f97_l0_e (C : OracleJ H) (n : Nat) (i0 : Value) (i1 : Value) (i8 : Value) (i9 : Value) (i10 : Value) (i11 : Value) (i12 : Value) (i13 : Value) (i14 : Value) (m : Nat) (x : Value × Value × Value) (s : St H) (K : Ex → List Value → St H → Option (List (Value × St H))) :
 iter (fun t s k => exec Try.prog false C n 97 none (cdp Try.f97 [1, 1, 1, 0, 0]) t s k) (scratch (cdp Try.f97 [1, 1, 1, 0, 0])) m (f97_l0_m i0 i1 i8 i9 i10 i11 i12 i13 i14 x) s K = iterS (f97_l0 (dOps (H := H) Try.prog) C n i0 i13 i14) (fun i x s => K (.exit i) (f97_l0_m i0 i1 i8 i9 i10 i11 i12 i13 i14 x) s) (fun x s => K .ret (f97_l0_m i0 i1 i8 i9 i10 i11 i12 i13 i14 x) s) m x s :=
   iter_eq (f97_l0_m i0 i1 i8 i9 i10 i11 i12 i13 i14) (f97_l0 (dOps (H := H) Try.prog) C n i0 i13 i14) (fun x s nx K => f97_l0_b C n i0 i1 i8 i9 i10 i11 i12 i13 i14 x s nx K) K m x s
noncomputable def f97 (O : Ops H) (C : OracleJ H) (n : Nat) (a0 : Value) (a1 : Value) (s : St H) : Option (List (Value × St H)) :=
 (O.len s 66 a1).bind fun v1 =>
 (O.conv false s 3 70 v1).bind fun p2 =>
 (C (.fn 99) [a0, p2.1] p2.2).bind fun L3 => manyK L3 fun v4 s5 =>
 (O.len s5 66 a1).bind fun v6 =>
 iterS (f97_l0 O C n a0 a1 v6 )
 (fun i89 x90 s91 => (bif Nat.beq i89 0 then
 some [(.tuple #[], s91)] else none))
 (fun x92 s93 => some [(.tuple #[], s93)]) n ((Go.Value.int Go.IntKind.i64 0), undefV, (Go.Value.int Go.IntKind.i64 0)) s5
theorem f97_l0_k (C : OracleJ H) (n : Nat) (i0 : Value) (i1 : Value) (i8 : Value) (i9 : Value) (i10 : Value) (i11 : Value) (i12 : Value) (i13 : Value) (i14 : Value) (i : Nat) (x : Value × Value × Value) (s : St H) : (kBlock 0 (kFun Try.prog Try.f97)) (.exit i) (f97_l0_m i0 i1 i8 i9 i10 i11 i12 i13 i14 x) s =
 (bif Nat.beq i 0 then
 some [(.tuple #[], s)] else none) := by kernel_rfl
theorem f97_r (C : OracleJ H) (n : Nat) (a0 : Value) (a1 : Value) (s : St H) : bodyD Try.prog false C n 97 Try.f97 [a0, a1] s = f97 (dOps (H := H) Try.prog) C n a0 a1 s := by
  have h1 : bodyD Try.prog false C n 97 Try.f97 [a0, a1] s =
 ((dOps (H := H) Try.prog).len s 66 a1).bind fun v94 =>
 ((dOps (H := H) Try.prog).conv false s 3 70 v94).bind fun p95 =>
 (C (.fn 99) [a0, p95.1] p95.2).bind fun L96 => manyK L96 fun v97 s98 =>
 ((dOps (H := H) Try.prog).len s98 66 a1).bind fun v99 =>
 iter (fun t s k => exec Try.prog false C n 97 none (cdp Try.f97 [1, 1, 1, 0, 0]) t s k) (scratch (cdp Try.f97 [1, 1, 1, 0, 0])) n (f97_l0_m a0 a1 a0 a1 v94 p95.1 v97 a1 v99 ((Go.Value.int Go.IntKind.i64 0), undefV, (Go.Value.int Go.IntKind.i64 0))) s98 (kBlock 0 (kFun Try.prog Try.f97)) := by kernel_rfl
  rw [h1]
  simp only [f97_l0_e, f97_l0_k]
  show _ = f97 (dOps (H := H) Try.prog) C n a0 a1 s
  kernel_rfl
/-! (*tidepole/rec.writer).ids -/
noncomputable def f98 (O : Ops H) (C : OracleJ H) (n : Nat) (a0 : Value) (a1 : Value) (s : St H) : Option (List (Value × St H)) :=
 (C (.fn 147) [a0, a1, (.func (.func 142) #[] #[]), (.func (.func 148) #[] #[])] s).bind fun L1 => manyK L1 fun v2 s3 =>
 some [(.tuple #[], s3)]
theorem f98_r (C : OracleJ H) (n : Nat) (a0 : Value) (a1 : Value) (s : St H) : bodyD Try.prog false C n 98 Try.f98 [a0, a1] s = f98 (dOps (H := H) Try.prog) C n a0 a1 s := by kernel_rfl
/-! (*tidepole/rec.writer).number -/
noncomputable def f99 (O : Ops H) (C : OracleJ H) (n : Nat) (a0 : Value) (a1 : Value) (s : St H) : Option (List (Value × St H)) :=
 (O.nilCheck a0).bind fun v1 =>
 (O.fieldAddr 147 v1 0).bind fun v2 =>
 (O.load s 35 v2).bind fun v3 =>
 (C (.fn 72) [v3, a1] s).bind fun L4 => manyK L4 fun v5 s6 =>
 (O.nilCheck a0).bind fun v7 =>
 (O.fieldAddr 147 v7 0).bind fun v8 =>
 (O.store s6 35 v8 v5).bind fun s9 =>
 some [(.tuple #[], s9)]
theorem f99_r (C : OracleJ H) (n : Nat) (a0 : Value) (a1 : Value) (s : St H) : bodyD Try.prog false C n 99 Try.f99 [a0, a1] s = f99 (dOps (H := H) Try.prog) C n a0 a1 s := by kernel_rfl
/-! (*tidepole/rec.reader).body -/
noncomputable def f100 (O : Ops H) (C : OracleJ H) (n : Nat) (a0 : Value) (a1 : Value) (s : St H) : Option (List (Value × St H)) :=
 (O.nilCheck a1).bind fun v1 =>
 (O.fieldAddr 72 v1 0).bind fun v2 =>
 (O.load s 3 v2).bind fun v3 =>
 (O.bop .eql 3 v3 (Go.Value.int Go.IntKind.i64 1)).bind fun v4 =>
 jn (fun (js556 : St H) =>
 some [((.bool true), js556)]) fun k556 =>
 (O.boolO v4).bind fun b5 => cond b5 (
 (C (.fn 149) [a0] s).bind fun L6 => manyK L6 fun v7 s8 =>
 (O.nilCheck a1).bind fun v9 =>
 (O.fieldAddr 72 v9 1).bind fun v10 =>
 (O.store s8 65 v10 v7).bind fun s11 =>
 (C (.fn 150) [a0] s11).bind fun L12 => manyK L12 fun v13 s14 =>
 (O.nilCheck a1).bind fun v15 =>
 (O.fieldAddr 72 v15 2).bind fun v16 =>
 (O.store s14 66 v16 v13).bind fun s17 =>
 k556 s17) (
 (O.bop .eql 3 v3 (Go.Value.int Go.IntKind.i64 2)).bind fun v18 =>
 jn (fun (js560 : St H) =>
 k556 js560) fun k560 =>
 (O.boolO v18).bind fun b19 => cond b19 (
 (C (.fn 151) [a0] s).bind fun L20 => manyK L20 fun v21 s22 =>
 (O.nilCheck a1).bind fun v23 =>
 (O.fieldAddr 72 v23 3).bind fun v24 =>
 (O.store s22 67 v24 v21).bind fun s25 =>
 (C (.fn 152) [a0, (Go.Value.int Go.IntKind.u64 35184372088832)] s25).bind fun L26 => manyK L26 fun v27 s28 =>
 (O.conv false s28 70 3 v27).bind fun p29 =>
 (O.nilCheck a1).bind fun v30 =>
 (O.fieldAddr 72 v30 4).bind fun v31 =>
 (O.fieldAddr 69 v31 0).bind fun v32 =>
 (O.store p29.2 3 v32 p29.1).bind fun s33 =>
 (O.nilCheck a1).bind fun v34 =>
 (O.fieldAddr 72 v34 4).bind fun v35 =>
 (O.fieldAddr 69 v35 0).bind fun v36 =>
 (O.load s33 3 v36).bind fun v37 =>
 (oneO C (.fn 152) [a0, (Go.Value.int Go.IntKind.u64 35184372088832)] s33).bind fun p38 =>
 (O.conv false p38.2 70 3 p38.1).bind fun p39 =>
 (O.bop .add 3 v37 p39.1).bind fun v40 =>
 (O.nilCheck a1).bind fun v41 =>
 (O.fieldAddr 72 v41 4).bind fun v42 =>
 (O.fieldAddr 69 v42 1).bind fun v43 =>
 (O.store p39.2 3 v43 v40).bind fun s44 =>
 bif (eqO H (O.load s33 3 v36) v37 && (eqO H (O.load p38.2 3 v36) v37 && (true))) && (true) then
 k560 s44
 else none) (
 (O.bop .eql 3 v3 (Go.Value.int Go.IntKind.i64 3)).bind fun v45 =>
 jn (fun (js565 : St H) =>
 k560 js565) fun k565 =>
 (O.boolO v45).bind fun b46 => cond b46 (
 (C (.fn 149) [a0] s).bind fun L47 => manyK L47 fun v48 s49 =>
 (O.nilCheck a1).bind fun v50 =>
 (O.fieldAddr 72 v50 1).bind fun v51 =>
 (O.store s49 65 v51 v48).bind fun s52 =>
 k565 s52) (
 (O.bop .eql 3 v3 (Go.Value.int Go.IntKind.i64 4)).bind fun v53 =>
 jn (fun (js568 : St H) =>
 k565 js568) fun k568 =>
 (O.boolO v53).bind fun b54 => cond b54 (
 (C (.fn 151) [a0] s).bind fun L55 => manyK L55 fun v56 s57 =>
 (O.nilCheck a1).bind fun v58 =>
 (O.fieldAddr 72 v58 3).bind fun v59 =>
 (O.store s57 67 v59 v56).bind fun s60 =>
 (C (.fn 152) [a0, (Go.Value.int Go.IntKind.u64 18446744073709551615)] s60).bind fun L61 => manyK L61 fun v62 s63 =>
 (O.nilCheck a1).bind fun v64 =>
 (O.fieldAddr 72 v64 5).bind fun v65 =>
 (O.store s63 70 v65 v62).bind fun s66 =>
 (C (.fn 149) [a0] s66).bind fun L67 => manyK L67 fun v68 s69 =>
 (O.nilCheck a1).bind fun v70 =>
 (O.fieldAddr 72 v70 1).bind fun v71 =>
 (O.store s69 65 v71 v68).bind fun s72 =>
 k568 s72) (
 (O.bop .eql 3 v3 (Go.Value.int Go.IntKind.i64 5)).bind fun v73 =>
 jn (fun (js573 : St H) =>
 k568 js573) fun k573 =>
 (O.boolO v73).bind fun b74 => cond b74 (
 (C (.fn 152) [a0, (Go.Value.int Go.IntKind.u64 18446744073709551615)] s).bind fun L75 => manyK L75 fun v76 s77 =>
 (O.nilCheck a1).bind fun v78 =>
 (O.fieldAddr 72 v78 5).bind fun v79 =>
 (O.store s77 70 v79 v76).bind fun s80 =>
 k573 s80) (
 (O.bop .eql 3 v3 (Go.Value.int Go.IntKind.i64 6)).bind fun v81 =>
 (O.boolO v81).bind fun b82 => cond b82 (
 (C (.fn 152) [a0, (Go.Value.int Go.IntKind.u64 35184372088832)] s).bind fun L83 => manyK L83 fun v84 s85 =>
 (O.nilCheck a1).bind fun v86 =>
 (O.fieldAddr 72 v86 5).bind fun v87 =>
 (O.store s85 70 v87 v84).bind fun s88 =>
 k573 s88) (
 some [((.bool false), s)]))))))
theorem f100_r (C : OracleJ H) (n : Nat) (a0 : Value) (a1 : Value) (s : St H) : bodyD Try.prog false C n 100 Try.f100 [a0, a1] s = f100 (dOps (H := H) Try.prog) C n a0 a1 s := by kernel_rfl
/-! tidepole/label.letter -/
noncomputable def f118 (O : Ops H) (C : OracleJ H) (n : Nat) (a0 : Value) (a1 : Value) (s : St H) : Option (List (Value × St H)) :=
 (O.bop .eql 5 a0 (Go.Value.int Go.IntKind.u8 95)).bind fun v1 =>
 jn (fun (j583_5 : Value) =>
 (O.boolO j583_5).bind fun b18 => cond b18 (
 some [((.bool true), s)]) (
 jn (fun (j598_20 : Value) =>
 (O.boolO j598_20).bind fun b23 => cond b23 (
 (O.uop .not a1).bind fun v24 =>
 some [(v24, s)]) (
 some [((.bool false), s)])) fun k598 =>
 (O.bop .geq 5 a0 (Go.Value.int Go.IntKind.u8 48)).bind fun v19 =>
 gd v19 (
 (O.bop .leq 5 a0 (Go.Value.int Go.IntKind.u8 57)).bind fun v20 =>
 k598 v20) (
 k598 (.bool false)) (
 none))) fun k583 =>
 (O.boolO v1).bind fun b2 => cond b2 (
 k583 v1) (
 jn (fun (j584_5 : Value) =>
 jn (fun (j587_5 : Value) =>
 k583 j587_5) fun k587 =>
 (O.boolO j584_5).bind fun b8 => cond b8 (
 k587 j584_5) (
 jn (fun (j588_5 : Value) =>
 k587 j588_5) fun k588 =>
 (O.bop .geq 5 a0 (Go.Value.int Go.IntKind.u8 65)).bind fun v9 =>
 gd v9 (
 (O.bop .leq 5 a0 (Go.Value.int Go.IntKind.u8 90)).bind fun v10 =>
 k588 v10) (
 k588 (.bool false)) (
 none))) fun k584 =>
 (O.bop .geq 5 a0 (Go.Value.int Go.IntKind.u8 97)).bind fun v3 =>
 gd v3 (
 (O.bop .leq 5 a0 (Go.Value.int Go.IntKind.u8 122)).bind fun v4 =>
 k584 v4) (
 k584 (.bool false)) (
 none))
theorem f118_r (C : OracleJ H) (n : Nat) (a0 : Value) (a1 : Value) (s : St H) : bodyD Try.prog false C n 118 Try.f118 [a0, a1] s = f118 (dOps (H := H) Try.prog) C n a0 a1 s := by kernel_rfl
/-! tidepole/vint.put[uint64] -/
def f123_l0_m (i0 : Value) (i1 : Value) (i2 : Value) (i6 : Value) (i9 : Value) (i10 : Value) (i11 : Value) (i12 : Value) (i13 : Value) (i14 : Value) (i15 : Value) (i16 : Value) (i17 : Value) (x : Value × Value) : List Value := [i0, i1, i2, undefV, undefV, undefV, i6, x.1, x.2, i9, i10, i11, i12, i13, i14, i15, i16, i17, dc, dc, dc, dc, dc, dc, dc, dc, dc, dc, undefV, undefV, undefV, undefV, undefV]
noncomputable def f123_l0 (O : Ops H) (C : OracleJ H) (n : Nat) (nx : (Value × Value) → St H → Option (List (Value × St H))) (kx : Nat → (Value × Value) → St H → Option (List (Value × St H))) (kr : (Value × Value) → St H → Option (List (Value × St H))) (x : Value × Value) (s : St H) : Option (List (Value × St H)) :=
 (O.bop .gtr 70 x.2 (Go.Value.int Go.IntKind.u64 127)).bind fun v9 =>
 (O.boolO v9).bind fun b10 => cond b10 (
 (O.conv false s 70 5 x.2).bind fun p11 =>
 (O.bop .or 5 p11.1 (Go.Value.int Go.IntKind.u8 128)).bind fun v12 =>
 (O.buildSlice false p11.2 35 1 [(0, v12)]).bind fun p13 =>
 (O.append false p13.2 35 35 x.1 p13.1).bind fun p14 =>
 (O.bop .shr 70 x.2 (Go.Value.int Go.IntKind.u64 7)).bind fun v15 =>
 nx (p14.1, v15) p14.2) (
 kx 0 (x.1, x.2) s)
theorem f123_l0_b (C : OracleJ H) (n : Nat) (i0 : Value) (i1 : Value) (i2 : Value) (i6 : Value) (i9 : Value) (i10 : Value) (i11 : Value) (i12 : Value) (i13 : Value) (i14 : Value) (i15 : Value) (i16 : Value) (i17 : Value) (x : Value × Value) (s : St H) (nx : List Value → St H → Option (List (Value × St H))) (K : Ex → List Value → St H → Option (List (Value × St H))) :
 exec Try.prog false C n 123 none (cdp Try.f123 [1, 1, 1, 0, 0, 0]) (f123_l0_m i0 i1 i2 i6 i9 i10 i11 i12 i13 i14 i15 i16 i17 x) s (kIter (scratch (cdp Try.f123 [1, 1, 1, 0, 0, 0])) nx K) = f123_l0 (dOps (H := H) Try.prog) C n (fun x s => nx (f123_l0_m i0 i1 i2 i6 i9 i10 i11 i12 i13 i14 i15 i16 i17 x) s) (fun i x s => K (.exit i) (f123_l0_m i0 i1 i2 i6 i9 i10 i11 i12 i13 i14 i15 i16 i17 x) s) (fun x s => K .ret (f123_l0_m i0 i1 i2 i6 i9 i10 i11 i12 i13 i14 i15 i16 i17 x) s) x s := by kernel_rfl
theorem f123_l0_e (C : OracleJ H) (n : Nat) (i0 : Value) (i1 : Value) (i2 : Value) (i6 : Value) (i9 : Value) (i10 : Value) (i11 : Value) (i12 : Value) (i13 : Value) (i14 : Value) (i15 : Value) (i16 : Value) (i17 : Value) (m : Nat) (x : Value × Value) (s : St H) (K : Ex → List Value → St H → Option (List (Value × St H))) :
 iter (fun t s k => exec Try.prog false C n 123 none (cdp Try.f123 [1, 1, 1, 0, 0, 0]) t s k) (scratch (cdp Try.f123 [1, 1, 1, 0, 0, 0])) m (f123_l0_m i0 i1 i2 i6 i9 i10 i11 i12 i13 i14 i15 i16 i17 x) s K = iterS (f123_l0 (dOps (H := H) Try.prog) C n) (fun i x s => K (.exit i) (f123_l0_m i0 i1 i2 i6 i9 i10 i11 i12 i13 i14 i15 i16 i17 x) s) (fun x s => K .ret (f123_l0_m i0 i1 i2 i6 i9 i10 i11 i12 i13 i14 i15 i16 i17 x) s) m x s :=
   iter_eq (f123_l0_m i0 i1 i2 i6 i9 i10 i11 i12 i13 i14 i15 i16 i17) (f123_l0 (dOps (H := H) Try.prog) C n) (fun x s nx K => f123_l0_b C n i0 i1 i2 i6 i9 i10 i11 i12 i13 i14 i15 i16 i17 x s nx K) K m x s
noncomputable def f123 (O : Ops H) (C : OracleJ H) (n : Nat) (a0 : Value) (a1 : Value) (a2 : Value) (s : St H) : Option (List (Value × St H)) :=
 (O.len s 35 a0).bind fun v1 =>
 (O.bop .add 3 v1 (Go.Value.int Go.IntKind.i64 10)).bind fun v2 =>
 (O.makeSlice false s 35 (Go.Value.int Go.IntKind.i64 0) v2).bind fun p3 =>
 (O.append false p3.2 35 35 p3.1 a0).bind fun p4 =>
 (O.tgt a2 [a1]).bind fun g5 => (C g5.1 g5.2 p4.2).bind fun L6 => manyK L6 fun v7 s8 =>
 iterS (f123_l0 O C n )
 (fun i16 x17 s18 => (bif Nat.beq i16 0 then
 (O.conv false s18 70 5 x17.2).bind fun p21 =>
 (O.buildSlice false p21.2 35 1 [(0, p21.1)]).bind fun p22 =>
 (O.append false p22.2 35 35 x17.1 p22.1).bind fun p23 =>
 some [(p23.1, p23.2)] else none))
 (fun x19 s20 => some [((fzV 2 #[]), s20)]) n (p4.1, v7) s8
theorem f123_l0_k (C : OracleJ H) (n : Nat) (i0 : Value) (i1 : Value) (i2 : Value) (i6 : Value) (i9 : Value) (i10 : Value) (i11 : Value) (i12 : Value) (i13 : Value) (i14 : Value) (i15 : Value) (i16 : Value) (i17 : Value) (i : Nat) (x : Value × Value) (s : St H) : (kBlock 0 (kSeq Try.prog false C n 123 none (cdp Try.f123 [1, 1, 1, 1]) (kFun Try.prog Try.f123))) (.exit i) (f123_l0_m i0 i1 i2 i6 i9 i10 i11 i12 i13 i14 i15 i16 i17 x) s =
 (bif Nat.beq i 0 then
 ((dOps (H := H) Try.prog).conv false s 70 5 x.2).bind fun p35 =>
 ((dOps (H := H) Try.prog).buildSlice false p35.2 35 1 [(0, p35.1)]).bind fun p36 =>
 ((dOps (H := H) Try.prog).append false p36.2 35 35 x.1 p36.1).bind fun p37 =>
 some [(p37.1, p37.2)] else none) := by kernel_rfl
theorem f123_r (C : OracleJ H) (n : Nat) (a0 : Value) (a1 : Value) (a2 : Value) (s : St H) : bodyD Try.prog false C n 123 Try.f123 [a0, a1, a2] s = f123 (dOps (H := H) Try.prog) C n a0 a1 a2 s := by
  have h1 : bodyD Try.prog false C n 123 Try.f123 [a0, a1, a2] s =
 ((dOps (H := H) Try.prog).len s 35 a0).bind fun v24 =>
 ((dOps (H := H) Try.prog).bop .add 3 v24 (Go.Value.int Go.IntKind.i64 10)).bind fun v25 =>
 ((dOps (H := H) Try.prog).makeSlice false s 35 (Go.Value.int Go.IntKind.i64 0) v25).bind fun p26 =>
 ((dOps (H := H) Try.prog).append false p26.2 35 35 p26.1 a0).bind fun p27 =>
 ((dOps (H := H) Try.prog).tgt a2 [a1]).bind fun g28 => (C g28.1 g28.2 p27.2).bind fun L29 => manyK L29 fun v30 s31 =>
 iter (fun t s k => exec Try.prog false C n 123 none (cdp Try.f123 [1, 1, 1, 0, 0, 0]) t s k) (scratch (cdp Try.f123 [1, 1, 1, 0, 0, 0])) n (f123_l0_m a0 a1 a2 (fzV 2 #[]) a0 v24 v25 p26.1 a0 p27.1 a2 a1 v30 (p27.1, v30)) s31 (kBlock 0 (kSeq Try.prog false C n 123 none (cdp Try.f123 [1, 1, 1, 1]) (kFun Try.prog Try.f123))) := by kernel_rfl
  rw [h1]
  simp only [f123_l0_e, f123_l0_k]
  show _ = f123 (dOps (H := H) Try.prog) C n a0 a1 a2 s
  kernel_rfl
/-! tidepole/vint.plain -/
noncomputable def f124 (O : Ops H) (C : OracleJ H) (n : Nat) (a0 : Value) (s : St H) : Option (List (Value × St H)) :=
 some [(a0, s)]
theorem f124_r (C : OracleJ H) (n : Nat) (a0 : Value) (s : St H) : bodyD Try.prog false C n 124 Try.f124 [a0] s = f124 (dOps (H := H) Try.prog) C n a0 s := by kernel_rfl
/-! tidepole/label.text -/
noncomputable def f125 (O : Ops H) (C : OracleJ H) (n : Nat) (a0 : Value) (a1 : Value) (s : St H) : Option (List (Value × St H)) :=
 (C (.fn 137) [a0, a1] s).bind fun L1 => manyK L1 fun v2 s3 =>
 (O.extract v2 0).bind fun v4 =>
 (O.extract v2 1).bind fun v5 =>
 (O.extract v2 2).bind fun v6 =>
 (O.conv false s3 35 9 v4).bind fun p7 =>
 some [(.tuple #[p7.1, v5, v6], p7.2)]
theorem f125_r (C : OracleJ H) (n : Nat) (a0 : Value) (a1 : Value) (s : St H) : bodyD Try.prog false C n 125 Try.f125 [a0, a1] s = f125 (dOps (H := H) Try.prog) C n a0 a1 s := by kernel_rfl
/-! tidepole/vint.ReadBytes -/
noncomputable def f137 (O : Ops H) (C : OracleJ H) (n : Nat) (a0 : Value) (a1 : Value) (s : St H) : Option (List (Value × St H)) :=
 (C (.fn 74) [a0, a1] s).bind fun L1 => manyK L1 fun v2 s3 =>
 (O.extract v2 0).bind fun v4 =>
 (O.extract v2 1).bind fun v5 =>
 (O.extract v2 2).bind fun v6 =>
 (O.bop .neq 26 v6 (Go.Value.int Go.IntKind.i64 0)).bind fun v7 =>
 (O.boolO v7).bind fun b8 => cond b8 (
 some [(.tuple #[(fzV 2 #[]), (Go.Value.int Go.IntKind.i64 0), v6], s3)]) (
 (O.bop .gtr 70 v4 (Go.Value.int Go.IntKind.u64 65536)).bind fun v9 =>
 (O.boolO v9).bind fun b10 => cond b10 (
 some [(.tuple #[(fzV 2 #[]), (Go.Value.int Go.IntKind.i64 0), (Go.Value.int Go.IntKind.i64 3)], s3)]) (
 (O.len s3 35 a0).bind fun v11 =>
 (O.bop .sub 3 v11 v5).bind fun v12 =>
 (O.conv false s3 3 70 v12).bind fun p13 =>
 (O.bop .gtr 70 v4 p13.1).bind fun v14 =>
 (O.boolO v14).bind fun b15 => cond b15 (
 some [(.tuple #[(fzV 2 #[]), (Go.Value.int Go.IntKind.i64 0), (Go.Value.int Go.IntKind.i64 7)], p13.2)]) (
 (O.conv false p13.2 70 3 v4).bind fun p16 =>
 (O.bop .add 3 v5 p16.1).bind fun v17 =>
 (O.buildSlice false p16.2 35 0 []).bind fun p18 =>
 (O.slc p18.2 35 a0 (some v5) (some v17) none).bind fun v19 =>
 (O.append false p18.2 35 35 p18.1 v19).bind fun p20 =>
 some [(.tuple #[p20.1, v17, v6], p20.2)])))
theorem f137_r (C : OracleJ H) (n : Nat) (a0 : Value) (a1 : Value) (s : St H) : bodyD Try.prog false C n 137 Try.f137 [a0, a1] s = f137 (dOps (H := H) Try.prog) C n a0 a1 s := by kernel_rfl
/-! tidepole/rec.shaped -/
noncomputable def f138 (O : Ops H) (C : OracleJ H) (n : Nat) (a0 : Value) (s : St H) : Option (List (Value × St H)) :=
 (O.box s a0).bind fun p1 =>
 (O.load p1.2 72 p1.1).bind fun v2 =>
 (C (.fn 174) [v2] p1.2).bind fun L3 => manyK L3 fun v4 s5 =>
 (O.alloc s5 240).bind fun p6 =>
 (O.store p6.2 240 p6.1 v4).bind fun s7 =>
 (O.fieldAddr 72 p1.1 0).bind fun v8 =>
 (O.load s7 3 v8).bind fun v9 =>
 jn (fun (_ : Unit) =>
 (O.load s7 240 p6.1).bind fun v110 =>
 (O.fieldAddr 240 p6.1 4).bind fun v111 =>
 (O.load s7 4 v111).bind fun v112 =>
 (O.build 240 [(4, v112)]).bind fun v113 =>
 (O.bop .eql 240 v110 v113).bind fun v114 =>
 some [(v114, s7)]) fun k643 =>
 (O.bop .eql 3 v9 (Go.Value.int Go.IntKind.i64 1)).bind fun v10 =>
 (O.boolO v10).bind fun b11 => cond b11 (
 (O.fieldAddr 240 p6.1 2).bind fun v22 =>
 (O.load s7 4 v22).bind fun v23 =>
 (O.uop .not v23).bind fun v24 =>
 gd v24 (
 (O.fieldAddr 240 p6.1 3).bind fun v25 =>
 (O.load s7 4 v25).bind fun v26 =>
 (O.uop .not v26).bind fun v27 =>
 gd v27 (
 (O.fieldAddr 240 p6.1 4).bind fun v28 =>
 (O.load s7 4 v28).bind fun v29 =>
 (O.uop .not v29).bind fun v30 =>
 some [(v30, s7)]) (
 some [((.bool false), s7)]) (
 none)) (
 some [((.bool false), s7)]) (
 none)) (
 (O.bop .eql 3 v9 (Go.Value.int Go.IntKind.i64 2)).bind fun v12 =>
 (O.boolO v12).bind fun b13 => cond b13 (
 (O.fieldAddr 240 p6.1 0).bind fun v31 =>
 (O.load s7 4 v31).bind fun v32 =>
 (O.uop .not v32).bind fun v33 =>
 gd v33 (
 (O.fieldAddr 240 p6.1 1).bind fun v34 =>
 (O.load s7 4 v34).bind fun v35 =>
 (O.uop .not v35).bind fun v36 =>
 gd v36 (
 (O.fieldAddr 240 p6.1 4).bind fun v37 =>
 (O.load s7 4 v37).bind fun v38 =>
 (O.uop .not v38).bind fun v39 =>
 gd v39 (
 (O.fieldAddr 72 p1.1 4).bind fun v40 =>
 (O.fieldAddr 69 v40 0).bind fun v41 =>
 (O.load s7 3 v41).bind fun v42 =>
 (O.fieldAddr 72 p1.1 4).bind fun v43 =>
 (O.fieldAddr 69 v43 1).bind fun v44 =>
 (O.load s7 3 v44).bind fun v45 =>
 (O.buildSlice false s7 228 2 [(0, v42), (1, v45)]).bind fun p46 =>
 (C (.fn 143) [p46.1] p46.2).bind fun L47 => manyK L47 fun v48 s49 =>
 gd v48 (
 (O.fieldAddr 72 p1.1 4).bind fun v50 =>
 (O.fieldAddr 69 v50 0).bind fun v51 =>
 (O.load s49 3 v51).bind fun v52 =>
 (O.fieldAddr 72 p1.1 4).bind fun v53 =>
 (O.fieldAddr 69 v53 1).bind fun v54 =>
 (O.load s49 3 v54).bind fun v55 =>
 (O.bop .leq 3 v52 v55).bind fun v56 =>
 some [(v56, s49)]) (
 some [((.bool false), s49)]) (
 none)) (
 some [((.bool false), s7)]) (
 none)) (
 some [((.bool false), s7)]) (
 none)) (
 some [((.bool false), s7)]) (
 none)) (
 (O.bop .eql 3 v9 (Go.Value.int Go.IntKind.i64 3)).bind fun v14 =>
 (O.boolO v14).bind fun b15 => cond b15 (
 (O.load s7 240 p6.1).bind fun v57 =>
 (O.build 240 [(0, (.bool true))]).bind fun v58 =>
 (O.bop .eql 240 v57 v58).bind fun v59 =>
 some [(v59, s7)]) (
 (O.bop .eql 3 v9 (Go.Value.int Go.IntKind.i64 4)).bind fun v16 =>
 (O.boolO v16).bind fun b17 => cond b17 (
 jn (fun (j664_4 : Value) =>
 (O.load s7 240 p6.1).bind fun v88 =>
 (O.fieldAddr 240 p6.1 0).bind fun v89 =>
 (O.load s7 4 v89).bind fun v90 =>
 (O.build 240 [(0, v90), (2, (.bool true)), (4, (.bool true))]).bind fun v91 =>
 (O.bop .eql 240 v88 v91).bind fun v92 =>
 gd v92 (
 gd j664_4 (
 (O.fieldAddr 72 p1.1 3).bind fun v93 =>
 (O.load s7 67 v93).bind fun v94 =>
 (O.fieldAddr 72 p1.1 5).bind fun v95 =>
 (O.load s7 70 v95).bind fun v96 =>
 (C (.fn 175) [v94, v96] s7).bind fun L97 => manyK L97 fun v98 s99 =>
 (O.uop .not v98).bind fun v100 =>
 some [(v100, s99)]) (
 some [((.bool false), s7)]) (
 none)) (
 some [((.bool false), s7)]) (
 none)) fun k664 =>
 (O.fieldAddr 240 p6.1 0).bind fun v60 =>
 (O.load s7 4 v60).bind fun v61 =>
 (O.uop .not v61).bind fun v62 =>
 gd v62 (
 k664 (.bool true)) (
 (O.fieldAddr 72 p1.1 1).bind fun v63 =>
 (O.load s7 65 v63).bind fun v64 =>
 (O.len s7 65 v64).bind fun v65 =>
 (O.bop .eql 3 v65 (Go.Value.int Go.IntKind.i64 1)).bind fun v66 =>
 gd v66 (
 (O.fieldAddr 72 p1.1 1).bind fun v67 =>
 (O.load s7 65 v67).bind fun v68 =>
 (O.indexAddr 65 v68 (Go.Value.int Go.IntKind.i64 0)).bind fun v69 =>
 (O.fieldAddr 135 v69 0).bind fun v70 =>
 (O.load s7 70 v70).bind fun v71 =>
 (O.fieldAddr 72 p1.1 5).bind fun v72 =>
 (O.load s7 70 v72).bind fun v73 =>
 (O.bop .eql 70 v71 v73).bind fun v74 =>
 k664 v74) (
 k664 (.bool false)) (
 none)) (
 none)) (
 (O.bop .eql 3 v9 (Go.Value.int Go.IntKind.i64 6)).bind fun v18 =>
 (O.boolO v18).bind fun b19 => cond b19 (
 (O.fieldAddr 72 p1.1 5).bind fun v101 =>
 (O.load s7 70 v101).bind fun v102 =>
 (O.bop .gtr 70 v102 (Go.Value.int Go.IntKind.u64 35184372088832)).bind fun v103 =>
 (O.boolO v103).bind fun b104 => cond b104 (
 some [((.bool false), s7)]) (
 k643 ())) (
 (O.bop .eql 3 v9 (Go.Value.int Go.IntKind.i64 5)).bind fun v20 =>
 (O.boolO v20).bind fun b21 => cond b21 (
 k643 ()) (
 some [((.bool false), s7)]))))))
theorem f138_r (C : OracleJ H) (n : Nat) (a0 : Value) (s : St H) : bodyD Try.prog false C n 138 Try.f138 [a0] s = f138 (dOps (H := H) Try.prog) C n a0 s := by kernel_rfl
/-! tidepole/rec.rise[tidepole/api.Named] -/
def f139_l0_m (i0 : Value) (i1 : Value) (i8 : Value) (i9 : Value) (x : Value × Value × Value) : List Value := [i0, i1, undefV, undefV, x.1, x.2.1, undefV, dc, i8, i9, x.2.2, dc, dc, dc, dc, dc, dc, dc, dc, dc, dc, dc, dc, undefV, undefV, undefV]
noncomputable def f139_l0 (O : Ops H) (C : OracleJ H) (n : Nat) (i1 : Value) (i8 : Value) (i9 : Value) (nx : (Value × Value × Value) → St H → Option (List (Value × St H))) (kx : Nat → (Value × Value × Value) → St H → Option (List (Value × St H))) (kr : (Value × Value × Value) → St H → Option (List (Value × St H))) (x : Value × Value × Value) (s : St H) : Option (List (Value × St H)) :=
 (O.bop .lss 3 x.2.2 i9).bind fun v2 =>
 (O.boolO v2).bind fun b3 => cond b3 (
 (O.indexAddr 65 i8 x.2.2).bind fun v4 =>
 (O.load s 135 v4).bind fun v5 =>
 (O.alloc s 135).bind fun p6 =>
 (O.store p6.2 135 p6.1 v5).bind fun s7 =>
 (O.load s7 135 p6.1).bind fun v8 =>
 (O.tgt i1 [v8]).bind fun g9 => (C g9.1 g9.2 s7).bind fun L10 => manyK L10 fun v11 s12 =>
 (O.bop .leq 70 v11 x.2.1).bind fun v13 =>
 (O.boolO v13).bind fun b14 => cond b14 (
 kr ((.bool false), x.2.1, x.2.2) s12) (
 (O.load s12 135 p6.1).bind fun v15 =>
 (O.tgt i1 [v15]).bind fun g16 => (C g16.1 g16.2 s12).bind fun L17 => manyK L17 fun v18 s19 =>
 (O.bop .add 3 x.2.2 (Go.Value.int Go.IntKind.i64 1)).bind fun v20 =>
 nx (x.1, v18, v20) s19)) (
 kx 0 (x.1, x.2.1, x.2.2) s)
theorem f139_l0_b (C : OracleJ H) (n : Nat) (i0 : Value) (i1 : Value) (i8 : Value) (i9 : Value) (x : Value × Value × Value) (s : St H) (nx : List Value → St H → Option (List (Value × St H))) (K : Ex → List Value → St H → Option (List (Value × St H))) :
 exec Try.prog false C n 139 none (cdp Try.f139 [1, 1, 0, 1, 0, 0]) (f139_l0_m i0 i1 i8 i9 x) s (kIter (scratch (cdp Try.f139 [1, 1, 0, 1, 0, 0])) nx K) = f139_l0 (dOps (H := H) Try.prog) C n i1 i8 i9 (fun x s => nx (f139_l0_m i0 i1 i8 i9 x) s) (fun i x s => K (.exit i) (f139_l0_m i0 i1 i8 i9 x) s) (fun x s => K .ret (f139_l0_m i0 i1 i8 i9 x) s) x s := by kernel_rfl
theorem f139_l0_e (C : OracleJ H) (n : Nat) (i0 : Value) (i1 : Value) (i8 : Value) (i9 : Value) (m : Nat) (x : Value × Value × Value) (s : St H) (K : Ex → List Value → St H → Option (List (Value × St H))) :
 iter (fun t s k => exec Try.prog false C n 139 none (cdp Try.f139 [1, 1, 0, 1, 0, 0]) t s k) (scratch (cdp Try.f139 [1, 1, 0, 1, 0, 0])) m (f139_l0_m i0 i1 i8 i9 x) s K = iterS (f139_l0 (dOps (H := H) Try.prog) C n i1 i8 i9) (fun i x s => K (.exit i) (f139_l0_m i0 i1 i8 i9 x) s) (fun x s => K .ret (f139_l0_m i0 i1 i8 i9 x) s) m x s :=
   iter_eq (f139_l0_m i0 i1 i8 i9) (f139_l0 (dOps (H := H) Try.prog) C n i1 i8 i9) (fun x s nx K => f139_l0_b C n i0 i1 i8 i9 x s nx K) K m x s
noncomputable def f139 (O : Ops H) (C : OracleJ H) (n : Nat) (a0 : Value) (a1 : Value) (s : St H) : Option (List (Value × St H)) :=
 (O.len s 65 a0).bind fun v1 =>
 iterS (f139_l0 O C n a1 a0 v1 )
 (fun i21 x22 s23 => (bif Nat.beq i21 0 then
 (O.len s23 65 a0).bind fun v26 =>
 (O.bop .leq 3 v26 (Go.Value.int Go.IntKind.i64 4096)).bind fun v27 =>
 some [(v27, s23)] else none))
 (fun x24 s25 => some [(x24.1, s25)]) n ((.bool false), (Go.Value.int Go.IntKind.u64 0), (Go.Value.int Go.IntKind.i64 0)) s
theorem f139_l0_k (C : OracleJ H) (n : Nat) (i0 : Value) (i1 : Value) (i8 : Value) (i9 : Value) (i : Nat) (x : Value × Value × Value) (s : St H) : (kBlock 0 (kSeq Try.prog false C n 139 none (cdp Try.f139 [1, 1, 1]) (kFun Try.prog Try.f139))) (.exit i) (f139_l0_m i0 i1 i8 i9 x) s =
 (bif Nat.beq i 0 then
 ((dOps (H := H) Try.prog).len s 65 i0).bind fun v31 =>
 ((dOps (H := H) Try.prog).bop .leq 3 v31 (Go.Value.int Go.IntKind.i64 4096)).bind fun v32 =>
 some [(v32, s)] else none) := by kernel_rfl
theorem f139_r (C : OracleJ H) (n : Nat) (a0 : Value) (a1 : Value) (s : St H) : bodyD Try.prog false C n 139 Try.f139 [a0, a1] s = f139 (dOps (H := H) Try.prog) C n a0 a1 s := by
  have h1 : bodyD Try.prog false C n 139 Try.f139 [a0, a1] s =
 ((dOps (H := H) Try.prog).len s 65 a0).bind fun v28 =>
 iter (fun t s k => exec Try.prog false C n 139 none (cdp Try.f139 [1, 1, 0, 1, 0, 0]) t s k) (scratch (cdp Try.f139 [1, 1, 0, 1, 0, 0])) n (f139_l0_m a0 a1 a0 v28 ((.bool false), (Go.Value.int Go.IntKind.u64 0), (Go.Value.int Go.IntKind.i64 0))) s (kBlock 0 (kSeq Try.prog false C n 139 none (cdp Try.f139 [1, 1, 1]) (kFun Try.prog Try.f139))) := by kernel_rfl
  rw [h1]
  simp only [f139_l0_e, f139_l0_k]
  show _ = f139 (dOps (H := H) Try.prog) C n a0 a1 s
  kernel_rfl
/-! tidepole/rec.id -/
noncomputable def f140 (O : Ops H) (C : OracleJ H) (n : Nat) (a0 : Value) (s : St H) : Option (List (Value × St H)) :=
 (O.box s a0).bind fun p1 =>
 (O.fieldAddr 135 p1.1 0).bind fun v2 =>
 (O.load p1.2 70 v2).bind fun v3 =>
 some [(v3, p1.2)]
theorem f140_r (C : OracleJ H) (n : Nat) (a0 : Value) (s : St H) : bodyD Try.prog false C n 140 Try.f140 [a0] s = f140 (dOps (H := H) Try.prog) C n a0 s := by kernel_rfl
/-! tidepole/rec.rise[uint64] -/
def f141_l0_m (i0 : Value) (i1 : Value) (i8 : Value) (i9 : Value) (x : Value × Value × Value × Value) : List Value := [i0, i1, undefV, undefV, x.1, x.2.1, undefV, x.2.2.1, i8, i9, x.2.2.2, dc, dc, dc, dc, dc, dc, dc, dc, dc, dc, dc, dc, undefV, undefV, undefV]
noncomputable def f141_l0 (O : Ops H) (C : OracleJ H) (n : Nat) (i1 : Value) (i8 : Value) (i9 : Value) (nx : (Value × Value × Value × Value) → St H → Option (List (Value × St H))) (kx : Nat → (Value × Value × Value × Value) → St H → Option (List (Value × St H))) (kr : (Value × Value × Value × Value) → St H → Option (List (Value × St H))) (x : Value × Value × Value × Value) (s : St H) : Option (List (Value × St H)) :=
 (O.bop .lss 3 x.2.2.2 i9).bind fun v2 =>
 (O.boolO v2).bind fun b3 => cond b3 (
 (O.indexAddr 67 i8 x.2.2.2).bind fun v4 =>
 (O.load s 70 v4).bind fun v5 =>
 (O.tgt i1 [v5]).bind fun g6 => (C g6.1 g6.2 s).bind fun L7 => manyK L7 fun v8 s9 =>
 (O.bop .leq 70 v8 x.2.1).bind fun v10 =>
 (O.boolO v10).bind fun b11 => cond b11 (
 kr ((.bool false), x.2.1, v5, x.2.2.2) s9) (
 (O.tgt i1 [v5]).bind fun g12 => (C g12.1 g12.2 s9).bind fun L13 => manyK L13 fun v14 s15 =>
 (O.bop .add 3 x.2.2.2 (Go.Value.int Go.IntKind.i64 1)).bind fun v16 =>
 nx (x.1, v14, v5, v16) s15)) (
 kx 0 (x.1, x.2.1, x.2.2.1, x.2.2.2) s)
theorem f141_l0_b (C : OracleJ H) (n : Nat) (i0 : Value) (i1 : Value) (i8 : Value) (i9 : Value) (x : Value × Value × Value × Value) (s : St H) (nx : List Value → St H → Option (List (Value × St H))) (K : Ex → List Value → St H → Option (List (Value × St H))) :
 exec Try.prog false C n 141 none (cdp Try.f141 [1, 1, 0, 1, 0, 0]) (f141_l0_m i0 i1 i8 i9 x) s (kIter (scratch (cdp Try.f141 [1, 1, 0, 1, 0, 0])) nx K) = f141_l0 (dOps (H := H) Try.prog) C n i1 i8 i9 (fun x s => nx (f141_l0_m i0 i1 i8 i9 x) s) (fun i x s => K (.exit i) (f141_l0_m i0 i1 i8 i9 x) s) (fun x s => K .ret (f141_l0_m i0 i1 i8 i9 x) s) x s := by kernel_rfl
theorem f141_l0_e (C : OracleJ H) (n : Nat) (i0 : Value) (i1 : Value) (i8 : Value) (i9 : Value) (m : Nat) (x : Value × Value × Value × Value) (s : St H) (K : Ex → List Value → St H → Option (List (Value × St H))) :
 iter (fun t s k => exec Try.prog false C n 141 none (cdp Try.f141 [1, 1, 0, 1, 0, 0]) t s k) (scratch (cdp Try.f141 [1, 1, 0, 1, 0, 0])) m (f141_l0_m i0 i1 i8 i9 x) s K = iterS (f141_l0 (dOps (H := H) Try.prog) C n i1 i8 i9) (fun i x s => K (.exit i) (f141_l0_m i0 i1 i8 i9 x) s) (fun x s => K .ret (f141_l0_m i0 i1 i8 i9 x) s) m x s :=
   iter_eq (f141_l0_m i0 i1 i8 i9) (f141_l0 (dOps (H := H) Try.prog) C n i1 i8 i9) (fun x s nx K => f141_l0_b C n i0 i1 i8 i9 x s nx K) K m x s
noncomputable def f141 (O : Ops H) (C : OracleJ H) (n : Nat) (a0 : Value) (a1 : Value) (s : St H) : Option (List (Value × St H)) :=
 (O.len s 67 a0).bind fun v1 =>
 iterS (f141_l0 O C n a1 a0 v1 )
 (fun i17 x18 s19 => (bif Nat.beq i17 0 then
 (O.len s19 67 a0).bind fun v22 =>
 (O.bop .leq 3 v22 (Go.Value.int Go.IntKind.i64 4096)).bind fun v23 =>
 some [(v23, s19)] else none))
 (fun x20 s21 => some [(x20.1, s21)]) n ((.bool false), (Go.Value.int Go.IntKind.u64 0), undefV, (Go.Value.int Go.IntKind.i64 0)) s
theorem f141_l0_k (C : OracleJ H) (n : Nat) (i0 : Value) (i1 : Value) (i8 : Value) (i9 : Value) (i : Nat) (x : Value × Value × Value × Value) (s : St H) : (kBlock 0 (kSeq Try.prog false C n 141 none (cdp Try.f141 [1, 1, 1]) (kFun Try.prog Try.f141))) (.exit i) (f141_l0_m i0 i1 i8 i9 x) s =
 (bif Nat.beq i 0 then
 ((dOps (H := H) Try.prog).len s 67 i0).bind fun v27 =>
 ((dOps (H := H) Try.prog).bop .leq 3 v27 (Go.Value.int Go.IntKind.i64 4096)).bind fun v28 =>
 some [(v28, s)] else none) := by kernel_rfl
theorem f141_r (C : OracleJ H) (n : Nat) (a0 : Value) (a1 : Value) (s : St H) : bodyD Try.prog false C n 141 Try.f141 [a0, a1] s = f141 (dOps (H := H) Try.prog) C n a0 a1 s := by
  have h1 : bodyD Try.prog false C n 141 Try.f141 [a0, a1] s =
 ((dOps (H := H) Try.prog).len s 67 a0).bind fun v24 =>
 iter (fun t s k => exec Try.prog false C n 141 none (cdp Try.f141 [1, 1, 0, 1, 0, 0]) t s k) (scratch (cdp Try.f141 [1, 1, 0, 1, 0, 0])) n (f141_l0_m a0 a1 a0 v24 ((.bool false), (Go.Value.int Go.IntKind.u64 0), undefV, (Go.Value.int Go.IntKind.i64 0))) s (kBlock 0 (kSeq Try.prog false C n 141 none (cdp Try.f141 [1, 1, 1]) (kFun Try.prog Try.f141))) := by kernel_rfl
  rw [h1]
  simp only [f141_l0_e, f141_l0_k]
  show _ = f141 (dOps (H := H) Try.prog) C n a0 a1 s
  kernel_rfl
/-! tidepole/rec.self -/
noncomputable def f142 (O : Ops H) (C : OracleJ H) (n : Nat) (a0 : Value) (s : St H) : Option (List (Value × St H)) :=
 some [(a0, s)]
theorem f142_r (C : OracleJ H) (n : Nat) (a0 : Value) (s : St H) : bodyD Try.prog false C n 142 Try.f142 [a0] s = f142 (dOps (H := H) Try.prog) C n a0 s := by kernel_rfl
/-! tidepole/rec.time -/
noncomputable def f143 (O : Ops H) (C : OracleJ H) (n : Nat) (a0 : Value) (s : St H) : Option (List (Value × St H)) :=
 (C (.fn 176) [a0, (.func (.func 177) #[] #[])] s).bind fun L1 => manyK L1 fun v2 s3 =>
 (O.uop .not v2).bind fun v4 =>
 some [(v4, s3)]
theorem f143_r (C : OracleJ H) (n : Nat) (a0 : Value) (s : St H) : bodyD Try.prog false C n 143 Try.f143 [a0] s = f143 (dOps (H := H) Try.prog) C n a0 s := by kernel_rfl
/-! tidepole/rec.list[tidepole/api.Named] -/
def f144_l0_m (i0 : Value) (i1 : Value) (i2 : Value) (i3 : Value) (i11 : Value) (i12 : Value) (i13 : Value) (i14 : Value) (i15 : Value) (i16 : Value) (i17 : Value) (x : Value × Value) : List Value := [i0, i1, i2, i3, undefV, undefV, undefV, undefV, x.1, undefV, dc, i11, i12, i13, i14, i15, i16, i17, x.2, dc, dc, dc, dc, dc, dc, dc, dc, dc, dc, dc, dc, dc, dc, dc, dc, dc]
noncomputable def f144_l0 (O : Ops H) (C : OracleJ H) (n : Nat) (i0 : Value) (i2 : Value) (i3 : Value) (i16 : Value) (i17 : Value) (nx : (Value × Value) → St H → Option (List (Value × St H))) (kx : Nat → (Value × Value) → St H → Option (List (Value × St H))) (kr : (Value × Value) → St H → Option (List (Value × St H))) (x : Value × Value) (s : St H) : Option (List (Value × St H)) :=
 (O.bop .lss 3 x.2 i17).bind fun v7 =>
 (O.boolO v7).bind fun b8 => cond b8 (
 (O.indexAddr 65 i16 x.2).bind fun v9 =>
 (O.load s 135 v9).bind fun v10 =>
 (O.alloc s 135).bind fun p11 =>
 (O.store p11.2 135 p11.1 v10).bind fun s12 =>
 (O.load s12 135 p11.1).bind fun v13 =>
 (O.tgt i2 [v13]).bind fun g14 => (C g14.1 g14.2 s12).bind fun L15 => manyK L15 fun v16 s17 =>
 (O.bop .sub 70 v16 x.1).bind fun v18 =>
 (C (.fn 99) [i0, v18] s17).bind fun L19 => manyK L19 fun v20 s21 =>
 (O.load s21 135 p11.1).bind fun v22 =>
 (O.tgt i3 [v22]).bind fun g23 => (C g23.1 g23.2 s21).bind fun L24 => manyK L24 fun v25 s26 =>
 (O.load s26 135 p11.1).bind fun v27 =>
 (O.tgt i2 [v27]).bind fun g28 => (C g28.1 g28.2 s26).bind fun L29 => manyK L29 fun v30 s31 =>
 (O.bop .add 3 x.2 (Go.Value.int Go.IntKind.i64 1)).bind fun v32 =>
 nx (v30, v32) s31) (
 kx 0 (x.1, x.2) s)
theorem f144_l0_b (C : OracleJ H) (n : Nat) (i0 : Value) (i1 : Value) (i2 : Value) (i3 : Value) (i11 : Value) (i12 : Value) (i13 : Value) (i14 : Value) (i15 : Value) (i16 : Value) (i17 : Value) (x : Value × Value) (s : St H) (nx : List Value → St H → Option (List (Value × St H))) (K : Ex → List Value → St H → Option (List (Value × St H))) :
 exec Try.prog false C n 144 none (cdp Try.f144 [1, 1, 1, 0, 0]) (f144_l0_m i0 i1 i2 i3 i11 i12 i13 i14 i15 i16 i17 x) s (kIter (scratch (cdp Try.f144 [1, 1, 1, 0, 0])) nx K) = f144_l0 (dOps (H := H) Try.prog) C n i0 i2 i3 i16 i17 (fun x s => nx (f144_l0_m i0 i1 i2 i3 i11 i12 i13 i14 i15 i16 i17 x) s) (fun i x s => K (.exit i) (f144_l0_m i0 i1 i2 i3 i11 i12 i13 i14 i15 i16 i17 x) s) (fun x s => K .ret (f144_l0_m i0 i1 i2 i3 i11 i12 i13 i14 i15 i16 i17 x) s) x s := by kernel_rfl
theorem f144_l0_e (C : OracleJ H) (n : Nat) (i0 : Value) (i1 : Value) (i2 : Value) (i3 : Value) (i11 : Value) (i12 : Value) (i13 : Value) (i14 : Value) (i15 : Value) (i16 : Value) (i17 : Value) (m : Nat) (x : Value × Value) (s : St H) (K : Ex → List Value → St H → Option (List (Value × St H))) :
 iter (fun t s k => exec Try.prog false C n 144 none (cdp Try.f144 [1, 1, 1, 0, 0]) t s k) (scratch (cdp Try.f144 [1, 1, 1, 0, 0])) m (f144_l0_m i0 i1 i2 i3 i11 i12 i13 i14 i15 i16 i17 x) s K = iterS (f144_l0 (dOps (H := H) Try.prog) C n i0 i2 i3 i16 i17) (fun i x s => K (.exit i) (f144_l0_m i0 i1 i2 i3 i11 i12 i13 i14 i15 i16 i17 x) s) (fun x s => K .ret (f144_l0_m i0 i1 i2 i3 i11 i12 i13 i14 i15 i16 i17 x) s) m x s :=
   iter_eq (f144_l0_m i0 i1 i2 i3 i11 i12 i13 i14 i15 i16 i17) (f144_l0 (dOps (H := H) Try.prog) C n i0 i2 i3 i16 i17) (fun x s nx K => f144_l0_b C n i0 i1 i2 i3 i11 i12 i13 i14 i15 i16 i17 x s nx K) K m x s
noncomputable def f144 (O : Ops H) (C : OracleJ H) (n : Nat) (a0 : Value) (a1 : Value) (a2 : Value) (a3 : Value) (s : St H) : Option (List (Value × St H)) :=
 (O.len s 65 a1).bind fun v1 =>
 (O.conv false s 3 70 v1).bind fun p2 =>
 (C (.fn 99) [a0, p2.1] p2.2).bind fun L3 => manyK L3 fun v4 s5 =>
 (O.len s5 65 a1).bind fun v6 =>
 iterS (f144_l0 O C n a0 a2 a3 a1 v6 )
 (fun i33 x34 s35 => (bif Nat.beq i33 0 then
 some [(.tuple #[], s35)] else none))
 (fun x36 s37 => some [(.tuple #[], s37)]) n ((Go.Value.int Go.IntKind.u64 0), (Go.Value.int Go.IntKind.i64 0)) s5
theorem f144_l0_k (C : OracleJ H) (n : Nat) (i0 : Value) (i1 : Value) (i2 : Value) (i3 : Value) (i11 : Value) (i12 : Value) (i13 : Value) (i14 : Value) (i15 : Value) (i16 : Value) (i17 : Value) (i : Nat) (x : Value × Value) (s : St H) : (kBlock 0 (kFun Try.prog Try.f144)) (.exit i) (f144_l0_m i0 i1 i2 i3 i11 i12 i13 i14 i15 i16 i17 x) s =
 (bif Nat.beq i 0 then
 some [(.tuple #[], s)] else none) := by kernel_rfl
theorem f144_r (C : OracleJ H) (n : Nat) (a0 : Value) (a1 : Value) (a2 : Value) (a3 : Value) (s : St H) : bodyD Try.prog false C n 144 Try.f144 [a0, a1, a2, a3] s = f144 (dOps (H := H) Try.prog) C n a0 a1 a2 a3 s := by
  have h1 : bodyD Try.prog false C n 144 Try.f144 [a0, a1, a2, a3] s =
 ((dOps (H := H) Try.prog).len s 65 a1).bind fun v38 =>
 ((dOps (H := H) Try.prog).conv false s 3 70 v38).bind fun p39 =>
 (C (.fn 99) [a0, p39.1] p39.2).bind fun L40 => manyK L40 fun v41 s42 =>
 ((dOps (H := H) Try.prog).len s42 65 a1).bind fun v43 =>
 iter (fun t s k => exec Try.prog false C n 144 none (cdp Try.f144 [1, 1, 1, 0, 0]) t s k) (scratch (cdp Try.f144 [1, 1, 1, 0, 0])) n (f144_l0_m a0 a1 a2 a3 a0 a1 v38 p39.1 v41 a1 v43 ((Go.Value.int Go.IntKind.u64 0), (Go.Value.int Go.IntKind.i64 0))) s42 (kBlock 0 (kFun Try.prog Try.f144)) := by kernel_rfl
  rw [h1]
  simp only [f144_l0_e, f144_l0_k]
  show _ = f144 (dOps (H := H) Try.prog) C n a0 a1 a2 a3 s
  kernel_rfl
/-! (*tidepole/rec.writer).named$1 -/
noncomputable def f145 (O : Ops H) (C : OracleJ H) (n : Nat) (a0 : Value) (a1 : Value) (s : St H) : Option (List (Value × St H)) :=
 (O.box s a0).bind fun p1 =>
 (O.load p1.2 145 a1).bind fun v2 =>
 (O.load p1.2 145 a1).bind fun v3 =>
 (O.nilCheck v3).bind fun v4 =>
 (O.fieldAddr 147 v4 0).bind fun v5 =>
 (O.load p1.2 35 v5).bind fun v6 =>
 (O.fieldAddr 135 p1.1 1).bind fun v7 =>
 (O.load p1.2 23 v7).bind fun v8 =>
 (oneO C (.fn 24) [v6, v8] p1.2).bind fun p9 =>
 (O.extract p9.1 0).bind fun v10 =>
 (O.extract p9.1 1).bind fun v11 =>
 (O.nilCheck v2).bind fun v12 =>
 (O.fieldAddr 147 v12 0).bind fun v13 =>
 (O.store p9.2 35 v13 v10).bind fun s14 =>
 bif (eqO H (O.load p1.2 145 a1) v2 && (eqO H (O.load p9.2 145 a1) v2 && (true))) && (true) then
 some [(.tuple #[], s14)]
 else none
theorem f145_r (C : OracleJ H) (n : Nat) (a0 : Value) (a1 : Value) (s : St H) : bodyD Try.prog false C n 145 Try.f145 [a0, a1] s = f145 (dOps (H := H) Try.prog) C n a0 a1 s := by kernel_rfl
/-! tidepole/vint.PutInt -/
noncomputable def f146 (O : Ops H) (C : OracleJ H) (n : Nat) (a0 : Value) (a1 : Value) (s : St H) : Option (List (Value × St H)) :=
 (C (.fn 178) [a0, a1, (.func (.func 179) #[] #[])] s).bind fun L1 => manyK L1 fun v2 s3 =>
 some [(v2, s3)]
theorem f146_r (C : OracleJ H) (n : Nat) (a0 : Value) (a1 : Value) (s : St H) : bodyD Try.prog false C n 146 Try.f146 [a0, a1] s = f146 (dOps (H := H) Try.prog) C n a0 a1 s := by kernel_rfl
/-! tidepole/rec.list[uint64] -/
def f147_l0_m (i0 : Value) (i1 : Value) (i2 : Value) (i3 : Value) (i11 : Value) (i12 : Value) (i13 : Value) (i14 : Value) (i15 : Value) (i16 : Value) (i17 : Value) (x : Value × Value × Value) : List Value := [i0, i1, i2, i3, undefV, undefV, undefV, undefV, x.1, undefV, x.2.1, i11, i12, i13, i14, i15, i16, i17, x.2.2, dc, dc, dc, dc, dc, dc, dc, dc, dc, dc, dc, dc, dc, dc, dc, dc, dc]
noncomputable def f147_l0 (O : Ops H) (C : OracleJ H) (n : Nat) (i0 : Value) (i2 : Value) (i3 : Value) (i16 : Value) (i17 : Value) (nx : (Value × Value × Value) → St H → Option (List (Value × St H))) (kx : Nat → (Value × Value × Value) → St H → Option (List (Value × St H))) (kr : (Value × Value × Value) → St H → Option (List (Value × St H))) (x : Value × Value × Value) (s : St H) : Option (List (Value × St H)) :=
 (O.bop .lss 3 x.2.2 i17).bind fun v7 =>
 (O.boolO v7).bind fun b8 => cond b8 (
 (O.indexAddr 67 i16 x.2.2).bind fun v9 =>
 (O.load s 70 v9).bind fun v10 =>
 (O.tgt i2 [v10]).bind fun g11 => (C g11.1 g11.2 s).bind fun L12 => manyK L12 fun v13 s14 =>
 (O.bop .sub 70 v13 x.1).bind fun v15 =>
 (C (.fn 99) [i0, v15] s14).bind fun L16 => manyK L16 fun v17 s18 =>
 (O.tgt i3 [v10]).bind fun g19 => (C g19.1 g19.2 s18).bind fun L20 => manyK L20 fun v21 s22 =>
 (O.tgt i2 [v10]).bind fun g23 => (C g23.1 g23.2 s22).bind fun L24 => manyK L24 fun v25 s26 =>
 (O.bop .add 3 x.2.2 (Go.Value.int Go.IntKind.i64 1)).bind fun v27 =>
 nx (v25, v10, v27) s26) (
 kx 0 (x.1, x.2.1, x.2.2) s)
theorem f147_l0_b (C : OracleJ H) (n : Nat) (i0 : Value) (i1 : Value) (i2 : Value) (i3 : Value) (i11 : Value) (i12 : Value) (i13 : Value) (i14 : Value) (i15 : Value) (i16 : Value) (i17 : Value) (x : Value × Value × Value) (s : St H) (nx : List Value → St H → Option (List (Value × St H))) (K : Ex → List Value → St H → Option (List (Value × St H))) :
 exec Try.prog false C n 147 none (cdp Try.f147 [1, 1, 1, 0, 0]) (f147_l0_m i0 i1 i2 i3 i11 i12 i13 i14 i15 i16 i17 x) s (kIter (scratch (cdp Try.f147 [1, 1, 1, 0, 0])) nx K) = f147_l0 (dOps (H := H) Try.prog) C n i0 i2 i3 i16 i17 (fun x s => nx (f147_l0_m i0 i1 i2 i3 i11 i12 i13 i14 i15 i16 i17 x) s) (fun i x s => K (.exit i) (f147_l0_m i0 i1 i2 i3 i11 i12 i13 i14 i15 i16 i17 x) s) (fun x s => K .ret (f147_l0_m i0 i1 i2 i3 i11 i12 i13 i14 i15 i16 i17 x) s) x s := by kernel_rfl
theorem f147_l0_e (C : OracleJ H) (n : Nat) (i0 : Value) (i1 : Value) (i2 : Value) (i3 : Value) (i11 : Value) (i12 : Value) (i13 : Value) (i14 : Value) (i15 : Value) (i16 : Value) (i17 : Value) (m : Nat) (x : Value × Value × Value) (s : St H) (K : Ex → List Value → St H → Option (List (Value × St H))) :
 iter (fun t s k => exec Try.prog false C n 147 none (cdp Try.f147 [1, 1, 1, 0, 0]) t s k) (scratch (cdp Try.f147 [1, 1, 1, 0, 0])) m (f147_l0_m i0 i1 i2 i3 i11 i12 i13 i14 i15 i16 i17 x) s K = iterS (f147_l0 (dOps (H := H) Try.prog) C n i0 i2 i3 i16 i17) (fun i x s => K (.exit i) (f147_l0_m i0 i1 i2 i3 i11 i12 i13 i14 i15 i16 i17 x) s) (fun x s => K .ret (f147_l0_m i0 i1 i2 i3 i11 i12 i13 i14 i15 i16 i17 x) s) m x s :=
   iter_eq (f147_l0_m i0 i1 i2 i3 i11 i12 i13 i14 i15 i16 i17) (f147_l0 (dOps (H := H) Try.prog) C n i0 i2 i3 i16 i17) (fun x s nx K => f147_l0_b C n i0 i1 i2 i3 i11 i12 i13 i14 i15 i16 i17 x s nx K) K m x s
noncomputable def f147 (O : Ops H) (C : OracleJ H) (n : Nat) (a0 : Value) (a1 : Value) (a2 : Value) (a3 : Value) (s : St H) : Option (List (Value × St H)) :=
 (O.len s 67 a1).bind fun v1 =>
 (O.conv false s 3 70 v1).bind fun p2 =>
 (C (.fn 99) [a0, p2.1] p2.2).bind fun L3 => manyK L3 fun v4 s5 =>
 (O.len s5 67 a1).bind fun v6 =>
 iterS (f147_l0 O C n a0 a2 a3 a1 v6 )
 (fun i28 x29 s30 => (bif Nat.beq i28 0 then
 some [(.tuple #[], s30)] else none))
 (fun x31 s32 => some [(.tuple #[], s32)]) n ((Go.Value.int Go.IntKind.u64 0), undefV, (Go.Value.int Go.IntKind.i64 0)) s5
theorem f147_l0_k (C : OracleJ H) (n : Nat) (i0 : Value) (i1 : Value) (i2 : Value) (i3 : Value) (i11 : Value) (i12 : Value) (i13 : Value) (i14 : Value) (i15 : Value) (i16 : Value) (i17 : Value) (i : Nat) (x : Value × Value × Value) (s : St H) : (kBlock 0 (kFun Try.prog Try.f147)) (.exit i) (f147_l0_m i0 i1 i2 i3 i11 i12 i13 i14 i15 i16 i17 x) s =
 (bif Nat.beq i 0 then
 some [(.tuple #[], s)] else none) := by kernel_rfl
theorem f147_r (C : OracleJ H) (n : Nat) (a0 : Value) (a1 : Value) (a2 : Value) (a3 : Value) (s : St H) : bodyD Try.prog false C n 147 Try.f147 [a0, a1, a2, a3] s = f147 (dOps (H := H) Try.prog) C n a0 a1 a2 a3 s := by
  have h1 : bodyD Try.prog false C n 147 Try.f147 [a0, a1, a2, a3] s =
 ((dOps (H := H) Try.prog).len s 67 a1).bind fun v33 =>
 ((dOps (H := H) Try.prog).conv false s 3 70 v33).bind fun p34 =>
 (C (.fn 99) [a0, p34.1] p34.2).bind fun L35 => manyK L35 fun v36 s37 =>
 ((dOps (H := H) Try.prog).len s37 67 a1).bind fun v38 =>
 iter (fun t s k => exec Try.prog false C n 147 none (cdp Try.f147 [1, 1, 1, 0, 0]) t s k) (scratch (cdp Try.f147 [1, 1, 1, 0, 0])) n (f147_l0_m a0 a1 a2 a3 a0 a1 v33 p34.1 v36 a1 v38 ((Go.Value.int Go.IntKind.u64 0), undefV, (Go.Value.int Go.IntKind.i64 0))) s37 (kBlock 0 (kFun Try.prog Try.f147)) := by kernel_rfl
  rw [h1]
  simp only [f147_l0_e, f147_l0_k]
  show _ = f147 (dOps (H := H) Try.prog) C n a0 a1 a2 a3 s
  kernel_rfl
/-! (*tidepole/rec.writer).ids$1 -/
noncomputable def f148 (O : Ops H) (C : OracleJ H) (n : Nat) (a0 : Value) (s : St H) : Option (List (Value × St H)) :=
 some [(.tuple #[], s)]
theorem f148_r (C : OracleJ H) (n : Nat) (a0 : Value) (s : St H) : bodyD Try.prog false C n 148 Try.f148 [a0] s = f148 (dOps (H := H) Try.prog) C n a0 s := by kernel_rfl
/-! (*tidepole/rec.reader).named -/
noncomputable def f149 (O : Ops H) (C : OracleJ H) (n : Nat) (a0 : Value) (s : St H) : Option (List (Value × St H)) :=
 (O.box s a0).bind fun p1 =>
 (O.alloc p1.2 70).bind fun p2 =>
 (O.store p2.2 70 p2.1 (Go.Value.int Go.IntKind.u64 0)).bind fun s3 =>
 (O.load s3 151 p1.1).bind fun v4 =>
 (C (.fn 180) [v4, (.func (.func 181) #[] #[p1.1, p2.1])] s3).bind fun L5 => manyK L5 fun v6 s7 =>
 some [(v6, s7)]
theorem f149_r (C : OracleJ H) (n : Nat) (a0 : Value) (s : St H) : bodyD Try.prog false C n 149 Try.f149 [a0] s = f149 (dOps (H := H) Try.prog) C n a0 s := by kernel_rfl
/-! (*tidepole/rec.reader).points -/
noncomputable def f150 (O : Ops H) (C : OracleJ H) (n : Nat) (a0 : Value) (s : St H) : Option (List (Value × St H)) :=
 (O.box s a0).bind fun p1 =>
 (O.alloc p1.2 3).bind fun p2 =>
 (O.store p2.2 3 p2.1 (Go.Value.int Go.IntKind.i64 0)).bind fun s3 =>
 (O.load s3 151 p1.1).bind fun v4 =>
 (C (.fn 185) [v4, (.func (.func 186) #[] #[p1.1, p2.1])] s3).bind fun L5 => manyK L5 fun v6 s7 =>
 some [(v6, s7)]
theorem f150_r (C : OracleJ H) (n : Nat) (a0 : Value) (s : St H) : bodyD Try.prog false C n 150 Try.f150 [a0] s = f150 (dOps (H := H) Try.prog) C n a0 s := by kernel_rfl
/-! (*tidepole/rec.reader).ids -/
noncomputable def f151 (O : Ops H) (C : OracleJ H) (n : Nat) (a0 : Value) (s : St H) : Option (List (Value × St H)) :=
 (O.box s a0).bind fun p1 =>
 (O.alloc p1.2 70).bind fun p2 =>
 (O.store p2.2 70 p2.1 (Go.Value.int Go.IntKind.u64 0)).bind fun s3 =>
 (O.load s3 151 p1.1).bind fun v4 =>
 (C (.fn 193) [v4, (.func (.func 194) #[] #[p1.1, p2.1])] s3).bind fun L5 => manyK L5 fun v6 s7 =>
 some [(v6, s7)]
theorem f151_r (C : OracleJ H) (n : Nat) (a0 : Value) (s : St H) : bodyD Try.prog false C n 151 Try.f151 [a0] s = f151 (dOps (H := H) Try.prog) C n a0 s := by kernel_rfl
/-! (*tidepole/rec.reader).number -/
noncomputable def f152 (O : Ops H) (C : OracleJ H) (n : Nat) (a0 : Value) (a1 : Value) (s : St H) : Option (List (Value × St H)) :=
 (O.box s a1).bind fun p1 =>
 (C (.fn 190) [a0, (.func (.func 74) #[] #[]), (.func (.func 195) #[] #[p1.1])] p1.2).bind fun L2 => manyK L2 fun v3 s4 =>
 some [(v3, s4)]
theorem f152_r (C : OracleJ H) (n : Nat) (a0 : Value) (a1 : Value) (s : St H) : bodyD Try.prog false C n 152 Try.f152 [a0, a1] s = f152 (dOps (H := H) Try.prog) C n a0 a1 s := by kernel_rfl
/-! tidepole/rec.of -/
noncomputable def f174 (O : Ops H) (C : OracleJ H) (n : Nat) (a0 : Value) (s : St H) : Option (List (Value × St H)) :=
 (O.box s a0).bind fun p1 =>
 (O.alloc p1.2 240).bind fun p2 =>
 (O.fieldAddr 72 p1.1 1).bind fun v3 =>
 (O.load p2.2 65 v3).bind fun v4 =>
 (O.len p2.2 65 v4).bind fun v5 =>
 (O.bop .gtr 3 v5 (Go.Value.int Go.IntKind.i64 0)).bind fun v6 =>
 (O.fieldAddr 72 p1.1 2).bind fun v7 =>
 (O.load p2.2 66 v7).bind fun v8 =>
 (O.len p2.2 66 v8).bind fun v9 =>
 (O.bop .gtr 3 v9 (Go.Value.int Go.IntKind.i64 0)).bind fun v10 =>
 (O.fieldAddr 72 p1.1 3).bind fun v11 =>
 (O.load p2.2 67 v11).bind fun v12 =>
 (O.len p2.2 67 v12).bind fun v13 =>
 (O.bop .gtr 3 v13 (Go.Value.int Go.IntKind.i64 0)).bind fun v14 =>
 (O.fieldAddr 72 p1.1 4).bind fun v15 =>
 (O.load p2.2 69 v15).bind fun v16 =>
 (O.build 69 []).bind fun v17 =>
 (O.bop .neq 69 v16 v17).bind fun v18 =>
 (O.fieldAddr 72 p1.1 5).bind fun v19 =>
 (O.load p2.2 70 v19).bind fun v20 =>
 (O.bop .neq 70 v20 (Go.Value.int Go.IntKind.u64 0)).bind fun v21 =>
 (O.build 240 [(0, v6), (1, v10), (2, v14), (3, v18), (4, v21)]).bind fun v22 =>
 (O.store p2.2 240 p2.1 v22).bind fun s23 =>
 (O.load s23 240 p2.1).bind fun v24 => some [(v24, s23)]
theorem f174_r (C : OracleJ H) (n : Nat) (a0 : Value) (s : St H) : bodyD Try.prog false C n 174 Try.f174 [a0] s = f174 (dOps (H := H) Try.prog) C n a0 s := by kernel_rfl
/-! slices.Contains[[]uint64,uint64] -/
noncomputable def f175 (O : Ops H) (C : OracleJ H) (n : Nat) (a0 : Value) (a1 : Value) (s : St H) : Option (List (Value × St H)) :=
 (C (.fn 207) [a0, a1] s).bind fun L1 => manyK L1 fun v2 s3 =>
 (O.bop .geq 3 v2 (Go.Value.int Go.IntKind.i64 0)).bind fun v4 =>
 some [(v4, s3)]
theorem f175_r (C : OracleJ H) (n : Nat) (a0 : Value) (a1 : Value) (s : St H) : bodyD Try.prog false C n 175 Try.f175 [a0, a1] s = f175 (dOps (H := H) Try.prog) C n a0 a1 s := by kernel_rfl
/-! slices.ContainsFunc[[]int,int] -/
noncomputable def f176 (O : Ops H) (C : OracleJ H) (n : Nat) (a0 : Value) (a1 : Value) (s : St H) : Option (List (Value × St H)) :=
 (C (.fn 208) [a0, a1] s).bind fun L1 => manyK L1 fun v2 s3 =>
 (O.bop .geq 3 v2 (Go.Value.int Go.IntKind.i64 0)).bind fun v4 =>
 some [(v4, s3)]
theorem f176_r (C : OracleJ H) (n : Nat) (a0 : Value) (a1 : Value) (s : St H) : bodyD Try.prog false C n 176 Try.f176 [a0, a1] s = f176 (dOps (H := H) Try.prog) C n a0 a1 s := by kernel_rfl
/-! tidepole/rec.time$1 -/
noncomputable def f177 (O : Ops H) (C : OracleJ H) (n : Nat) (a0 : Value) (s : St H) : Option (List (Value × St H)) :=
 (O.bop .lss 3 a0 (Go.Value.int Go.IntKind.i64 0)).bind fun v1 =>
 gd v1 (
 some [((.bool true), s)]) (
 (O.bop .gtr 3 a0 (Go.Value.int Go.IntKind.i64 35184372088832)).bind fun v2 =>
 some [(v2, s)]) (
 none)
theorem f177_r (C : OracleJ H) (n : Nat) (a0 : Value) (s : St H) : bodyD Try.prog false C n 177 Try.f177 [a0] s = f177 (dOps (H := H) Try.prog) C n a0 s := by kernel_rfl
/-! tidepole/vint.put[int] -/
def f178_l0_m (i0 : Value) (i1 : Value) (i2 : Value) (i6 : Value) (i9 : Value) (i10 : Value) (i11 : Value) (i12 : Value) (i13 : Value) (i14 : Value) (i15 : Value) (i16 : Value) (i17 : Value) (x : Value × Value) : List Value := [i0, i1, i2, undefV, undefV, undefV, i6, x.1, x.2, i9, i10, i11, i12, i13, i14, i15, i16, i17, dc, dc, dc, dc, dc, dc, dc, dc, dc, dc, undefV, undefV, undefV, undefV, undefV]
noncomputable def f178_l0 (O : Ops H) (C : OracleJ H) (n : Nat) (nx : (Value × Value) → St H → Option (List (Value × St H))) (kx : Nat → (Value × Value) → St H → Option (List (Value × St H))) (kr : (Value × Value) → St H → Option (List (Value × St H))) (x : Value × Value) (s : St H) : Option (List (Value × St H)) :=
 (O.bop .gtr 70 x.2 (Go.Value.int Go.IntKind.u64 127)).bind fun v9 =>
 (O.boolO v9).bind fun b10 => cond b10 (
 (O.conv false s 70 5 x.2).bind fun p11 =>
 (O.bop .or 5 p11.1 (Go.Value.int Go.IntKind.u8 128)).bind fun v12 =>
 (O.buildSlice false p11.2 35 1 [(0, v12)]).bind fun p13 =>
 (O.append false p13.2 35 35 x.1 p13.1).bind fun p14 =>
 (O.bop .shr 70 x.2 (Go.Value.int Go.IntKind.u64 7)).bind fun v15 =>
 nx (p14.1, v15) p14.2) (
 kx 0 (x.1, x.2) s)
theorem f178_l0_b (C : OracleJ H) (n : Nat) (i0 : Value) (i1 : Value) (i2 : Value) (i6 : Value) (i9 : Value) (i10 : Value) (i11 : Value) (i12 : Value) (i13 : Value) (i14 : Value) (i15 : Value) (i16 : Value) (i17 : Value) (x : Value × Value) (s : St H) (nx : List Value → St H → Option (List (Value × St H))) (K : Ex → List Value → St H → Option (List (Value × St H))) :
 exec Try.prog false C n 178 none (cdp Try.f178 [1, 1, 1, 0, 0, 0]) (f178_l0_m i0 i1 i2 i6 i9 i10 i11 i12 i13 i14 i15 i16 i17 x) s (kIter (scratch (cdp Try.f178 [1, 1, 1, 0, 0, 0])) nx K) = f178_l0 (dOps (H := H) Try.prog) C n (fun x s => nx (f178_l0_m i0 i1 i2 i6 i9 i10 i11 i12 i13 i14 i15 i16 i17 x) s) (fun i x s => K (.exit i) (f178_l0_m i0 i1 i2 i6 i9 i10 i11 i12 i13 i14 i15 i16 i17 x) s) (fun x s => K .ret (f178_l0_m i0 i1 i2 i6 i9 i10 i11 i12 i13 i14 i15 i16 i17 x) s) x s := by kernel_rfl
theorem f178_l0_e (C : OracleJ H) (n : Nat) (i0 : Value) (i1 : Value) (i2 : Value) (i6 : Value) (i9 : Value) (i10 : Value) (i11 : Value) (i12 : Value) (i13 : Value) (i14 : Value) (i15 : Value) (i16 : Value) (i17 : Value) (m : Nat) (x : Value × Value) (s : St H) (K : Ex → List Value → St H → Option (List (Value × St H))) :
 iter (fun t s k => exec Try.prog false C n 178 none (cdp Try.f178 [1, 1, 1, 0, 0, 0]) t s k) (scratch (cdp Try.f178 [1, 1, 1, 0, 0, 0])) m (f178_l0_m i0 i1 i2 i6 i9 i10 i11 i12 i13 i14 i15 i16 i17 x) s K = iterS (f178_l0 (dOps (H := H) Try.prog) C n) (fun i x s => K (.exit i) (f178_l0_m i0 i1 i2 i6 i9 i10 i11 i12 i13 i14 i15 i16 i17 x) s) (fun x s => K .ret (f178_l0_m i0 i1 i2 i6 i9 i10 i11 i12 i13 i14 i15 i16 i17 x) s) m x s :=
   iter_eq (f178_l0_m i0 i1 i2 i6 i9 i10 i11 i12 i13 i14 i15 i16 i17) (f178_l0 (dOps (H := H) Try.prog) C n) (fun x s nx K => f178_l0_b C n i0 i1 i2 i6 i9 i10 i11 i12 i13 i14 i15 i16 i17 x s nx K) K m x s
noncomputable def f178 (O : Ops H) (C : OracleJ H) (n : Nat) (a0 : Value) (a1 : Value) (a2 : Value) (s : St H) : Option (List (Value × St H)) :=
 (O.len s 35 a0).bind fun v1 =>
 (O.bop .add 3 v1 (Go.Value.int Go.IntKind.i64 10)).bind fun v2 =>
 (O.makeSlice false s 35 (Go.Value.int Go.IntKind.i64 0) v2).bind fun p3 =>
 (O.append false p3.2 35 35 p3.1 a0).bind fun p4 =>
 (O.tgt a2 [a1]).bind fun g5 => (C g5.1 g5.2 p4.2).bind fun L6 => manyK L6 fun v7 s8 =>
 iterS (f178_l0 O C n )
 (fun i16 x17 s18 => (bif Nat.beq i16 0 then
 (O.conv false s18 70 5 x17.2).bind fun p21 =>
 (O.buildSlice false p21.2 35 1 [(0, p21.1)]).bind fun p22 =>
 (O.append false p22.2 35 35 x17.1 p22.1).bind fun p23 =>
 some [(p23.1, p23.2)] else none))
 (fun x19 s20 => some [((fzV 2 #[]), s20)]) n (p4.1, v7) s8
theorem f178_l0_k (C : OracleJ H) (n : Nat) (i0 : Value) (i1 : Value) (i2 : Value) (i6 : Value) (i9 : Value) (i10 : Value) (i11 : Value) (i12 : Value) (i13 : Value) (i14 : Value) (i15 : Value) (i16 : Value) (i17 : Value) (i : Nat) (x : Value × Value) (s : St H) : (kBlock 0 (kSeq Try.prog false C n 178 none (cdp Try.f178 [1, 1, 1, 1]) (kFun Try.prog Try.f178))) (.exit i) (f178_l0_m i0 i1 i2 i6 i9 i10 i11 i12 i13 i14 i15 i16 i17 x) s =
 (bif Nat.beq i 0 then
 ((dOps (H := H) Try.prog).conv false s 70 5 x.2).bind fun p35 =>
 ((dOps (H := H) Try.prog).buildSlice false p35.2 35 1 [(0, p35.1)]).bind fun p36 =>
 ((dOps (H := H) Try.prog).append false p36.2 35 35 x.1 p36.1).bind fun p37 =>
 some [(p37.1, p37.2)] else none) := by kernel_rfl
theorem f178_r (C : OracleJ H) (n : Nat) (a0 : Value) (a1 : Value) (a2 : Value) (s : St H) : bodyD Try.prog false C n 178 Try.f178 [a0, a1, a2] s = f178 (dOps (H := H) Try.prog) C n a0 a1 a2 s := by
  have h1 : bodyD Try.prog false C n 178 Try.f178 [a0, a1, a2] s =
 ((dOps (H := H) Try.prog).len s 35 a0).bind fun v24 =>
 ((dOps (H := H) Try.prog).bop .add 3 v24 (Go.Value.int Go.IntKind.i64 10)).bind fun v25 =>
 ((dOps (H := H) Try.prog).makeSlice false s 35 (Go.Value.int Go.IntKind.i64 0) v25).bind fun p26 =>
 ((dOps (H := H) Try.prog).append false p26.2 35 35 p26.1 a0).bind fun p27 =>
 ((dOps (H := H) Try.prog).tgt a2 [a1]).bind fun g28 => (C g28.1 g28.2 p27.2).bind fun L29 => manyK L29 fun v30 s31 =>
 iter (fun t s k => exec Try.prog false C n 178 none (cdp Try.f178 [1, 1, 1, 0, 0, 0]) t s k) (scratch (cdp Try.f178 [1, 1, 1, 0, 0, 0])) n (f178_l0_m a0 a1 a2 (fzV 2 #[]) a0 v24 v25 p26.1 a0 p27.1 a2 a1 v30 (p27.1, v30)) s31 (kBlock 0 (kSeq Try.prog false C n 178 none (cdp Try.f178 [1, 1, 1, 1]) (kFun Try.prog Try.f178))) := by kernel_rfl
  rw [h1]
  simp only [f178_l0_e, f178_l0_k]
  show _ = f178 (dOps (H := H) Try.prog) C n a0 a1 a2 s
  kernel_rfl
/-! tidepole/vint.folded -/
noncomputable def f179 (O : Ops H) (C : OracleJ H) (n : Nat) (a0 : Value) (s : St H) : Option (List (Value × St H)) :=
 (O.conv false s 3 70 a0).bind fun p1 =>
 (O.bop .shl 70 p1.1 (Go.Value.int Go.IntKind.u64 1)).bind fun v2 =>
 (O.bop .shr 3 a0 (Go.Value.int Go.IntKind.u64 63)).bind fun v3 =>
 (O.conv false p1.2 3 70 v3).bind fun p4 =>
 (O.bop .xor 70 v2 p4.1).bind fun v5 =>
 some [(v5, p4.2)]
theorem f179_r (C : OracleJ H) (n : Nat) (a0 : Value) (s : St H) : bodyD Try.prog false C n 179 Try.f179 [a0] s = f179 (dOps (H := H) Try.prog) C n a0 s := by kernel_rfl
/-! tidepole/rec.each[tidepole/api.Named] -/
def f180_l0_m (i0 : Value) (i1 : Value) (i7 : Value) (i8 : Value) (x : Value × Value × Value) : List Value := [i0, i1, undefV, undefV, x.1, x.2.1, dc, i7, i8, x.2.2, dc, dc, dc, dc, dc, dc, dc, dc, dc, dc, dc, dc, dc, undefV]
noncomputable def f180_l0 (O : Ops H) (C : OracleJ H) (n : Nat) (i0 : Value) (i1 : Value) (i8 : Value) (nx : (Value × Value × Value) → St H → Option (List (Value × St H))) (kx : Nat → (Value × Value × Value) → St H → Option (List (Value × St H))) (kr : (Value × Value × Value) → St H → Option (List (Value × St H))) (x : Value × Value × Value) (s : St H) : Option (List (Value × St H)) :=
 (O.bop .lss 70 x.2.2 i8).bind fun v4 =>
 (O.boolO v4).bind fun b5 => cond b5 (
 (O.tgt i1 []).bind fun g6 => (C g6.1 g6.2 s).bind fun L7 => manyK L7 fun v8 s9 =>
 (O.alloc s9 135).bind fun p10 =>
 (O.store p10.2 135 p10.1 v8).bind fun s11 =>
 (O.nilCheck i0).bind fun v12 =>
 (O.fieldAddr 153 v12 2).bind fun v13 =>
 (O.load s11 26 v13).bind fun v14 =>
 (O.bop .neq 26 v14 (Go.Value.int Go.IntKind.i64 0)).bind fun v15 =>
 (O.boolO v15).bind fun b16 => cond b16 (
 kr ((fzV 2 #[]), x.2.1, x.2.2) s11) (
 (O.load s11 135 p10.1).bind fun v17 =>
 (O.buildSlice false s11 65 1 [(0, v17)]).bind fun p18 =>
 (O.append false p18.2 65 65 x.2.1 p18.1).bind fun p19 =>
 (O.bop .add 70 x.2.2 (Go.Value.int Go.IntKind.u64 1)).bind fun v20 =>
 nx (x.1, p19.1, v20) p19.2)) (
 kx 0 (x.1, x.2.1, x.2.2) s)
theorem f180_l0_b (C : OracleJ H) (n : Nat) (i0 : Value) (i1 : Value) (i7 : Value) (i8 : Value) (x : Value × Value × Value) (s : St H) (nx : List Value → St H → Option (List (Value × St H))) (K : Ex → List Value → St H → Option (List (Value × St H))) :
 exec Try.prog false C n 180 none (cdp Try.f180 [1, 1, 0, 1, 0, 0]) (f180_l0_m i0 i1 i7 i8 x) s (kIter (scratch (cdp Try.f180 [1, 1, 0, 1, 0, 0])) nx K) = f180_l0 (dOps (H := H) Try.prog) C n i0 i1 i8 (fun x s => nx (f180_l0_m i0 i1 i7 i8 x) s) (fun i x s => K (.exit i) (f180_l0_m i0 i1 i7 i8 x) s) (fun x s => K .ret (f180_l0_m i0 i1 i7 i8 x) s) x s := by kernel_rfl
theorem f180_l0_e (C : OracleJ H) (n : Nat) (i0 : Value) (i1 : Value) (i7 : Value) (i8 : Value) (m : Nat) (x : Value × Value × Value) (s : St H) (K : Ex → List Value → St H → Option (List (Value × St H))) :
 iter (fun t s k => exec Try.prog false C n 180 none (cdp Try.f180 [1, 1, 0, 1, 0, 0]) t s k) (scratch (cdp Try.f180 [1, 1, 0, 1, 0, 0])) m (f180_l0_m i0 i1 i7 i8 x) s K = iterS (f180_l0 (dOps (H := H) Try.prog) C n i0 i1 i8) (fun i x s => K (.exit i) (f180_l0_m i0 i1 i7 i8 x) s) (fun x s => K .ret (f180_l0_m i0 i1 i7 i8 x) s) m x s :=
   iter_eq (f180_l0_m i0 i1 i7 i8) (f180_l0 (dOps (H := H) Try.prog) C n i0 i1 i8) (fun x s nx K => f180_l0_b C n i0 i1 i7 i8 x s nx K) K m x s
noncomputable def f180 (O : Ops H) (C : OracleJ H) (n : Nat) (a0 : Value) (a1 : Value) (s : St H) : Option (List (Value × St H)) :=
 (C (.fn 152) [a0, (Go.Value.int Go.IntKind.u64 4096)] s).bind fun L1 => manyK L1 fun v2 s3 =>
 iterS (f180_l0 O C n a0 a1 v2 )
 (fun i21 x22 s23 => (bif Nat.beq i21 0 then
 some [(x22.2.1, s23)] else none))
 (fun x24 s25 => some [(x24.1, s25)]) n ((fzV 2 #[]), (fzV 2 #[]), (Go.Value.int Go.IntKind.u64 0)) s3
theorem f180_l0_k (C : OracleJ H) (n : Nat) (i0 : Value) (i1 : Value) (i7 : Value) (i8 : Value) (i : Nat) (x : Value × Value × Value) (s : St H) : (kBlock 0 (kSeq Try.prog false C n 180 none (cdp Try.f180 [1, 1, 1]) (kFun Try.prog Try.f180))) (.exit i) (f180_l0_m i0 i1 i7 i8 x) s =
 (bif Nat.beq i 0 then
 some [(x.2.1, s)] else none) := by kernel_rfl
theorem f180_r (C : OracleJ H) (n : Nat) (a0 : Value) (a1 : Value) (s : St H) : bodyD Try.prog false C n 180 Try.f180 [a0, a1] s = f180 (dOps (H := H) Try.prog) C n a0 a1 s := by
  have h1 : bodyD Try.prog false C n 180 Try.f180 [a0, a1] s =
 (C (.fn 152) [a0, (Go.Value.int Go.IntKind.u64 4096)] s).bind fun L26 => manyK L26 fun v27 s28 =>
 iter (fun t s k => exec Try.prog false C n 180 none (cdp Try.f180 [1, 1, 0, 1, 0, 0]) t s k) (scratch (cdp Try.f180 [1, 1, 0, 1, 0, 0])) n (f180_l0_m a0 a1 a0 v27 ((fzV 2 #[]), (fzV 2 #[]), (Go.Value.int Go.IntKind.u64 0))) s28 (kBlock 0 (kSeq Try.prog false C n 180 none (cdp Try.f180 [1, 1, 1]) (kFun Try.prog Try.f180))) := by kernel_rfl
  rw [h1]
  simp only [f180_l0_e, f180_l0_k]
  show _ = f180 (dOps (H := H) Try.prog) C n a0 a1 s
  kernel_rfl
/-! (*tidepole/rec.reader).named$1 -/
noncomputable def f181 (O : Ops H) (C : OracleJ H) (n : Nat) (a0 : Value) (a1 : Value) (s : St H) : Option (List (Value × St H)) :=
 (O.alloc s 135).bind fun p1 =>
 (O.load p1.2 151 a0).bind fun v2 =>
 (O.load p1.2 70 a1).bind fun v3 =>
 (C (.fn 182) [v2, v3] p1.2).bind fun L4 => manyK L4 fun v5 s6 =>
 (O.store s6 70 a1 v5).bind fun s7 =>
 (O.load s7 70 a1).bind fun v8 =>
 (O.load s7 151 a0).bind fun v9 =>
 (oneO C (.fn 183) [v9, (.func (.func 25) #[] #[]), (.func (.func 184) #[] #[])] s7).bind fun p10 =>
 (O.build 135 [(0, v8), (1, p10.1)]).bind fun v11 =>
 (O.store p10.2 135 p1.1 v11).bind fun s12 =>
 bif (eqO H (O.load s7 70 a1) v8 && (eqO H (O.load p10.2 70 a1) v8 && (true))) && (true) then
 (O.load s12 135 p1.1).bind fun v13 => some [(v13, s12)]
 else none
theorem f181_r (C : OracleJ H) (n : Nat) (a0 : Value) (a1 : Value) (s : St H) : bodyD Try.prog false C n 181 Try.f181 [a0, a1] s = f181 (dOps (H := H) Try.prog) C n a0 a1 s := by kernel_rfl
/-! (*tidepole/rec.reader).after -/
noncomputable def f182 (O : Ops H) (C : OracleJ H) (n : Nat) (a0 : Value) (a1 : Value) (s : St H) : Option (List (Value × St H)) :=
 (O.box s a1).bind fun p1 =>
 (O.load p1.2 70 p1.1).bind fun v2 =>
 (oneO C (.fn 190) [a0, (.func (.func 74) #[] #[]), (.func (.func 209) #[] #[p1.1])] p1.2).bind fun p3 =>
 (O.bop .add 70 v2 p3.1).bind fun v4 =>
 bif (eqO H (O.load p1.2 70 p1.1) v2 && (eqO H (O.load p3.2 70 p1.1) v2 && (true))) && (true) then
 some [(v4, p3.2)]
 else none
theorem f182_r (C : OracleJ H) (n : Nat) (a0 : Value) (a1 : Value) (s : St H) : bodyD Try.prog false C n 182 Try.f182 [a0, a1] s = f182 (dOps (H := H) Try.prog) C n a0 a1 s := by kernel_rfl
/-! tidepole/rec.take[tidepole/api.Labels] -/
noncomputable def f183 (O : Ops H) (C : OracleJ H) (n : Nat) (a0 : Value) (a1 : Value) (a2 : Value) (s : St H) : Option (List (Value × St H)) :=
 (O.nilCheck a0).bind fun v1 =>
 (O.fieldAddr 153 v1 2).bind fun v2 =>
 (O.load s 26 v2).bind fun v3 =>
 (O.bop .neq 26 v3 (Go.Value.int Go.IntKind.i64 0)).bind fun v4 =>
 (O.boolO v4).bind fun b5 => cond b5 (
 some [((fzV 2 #[]), s)]) (
 (O.nilCheck a0).bind fun v6 =>
 (O.fieldAddr 153 v6 0).bind fun v7 =>
 (O.load s 35 v7).bind fun v8 =>
 (O.nilCheck a0).bind fun v9 =>
 (O.fieldAddr 153 v9 1).bind fun v10 =>
 (O.load s 3 v10).bind fun v11 =>
 (O.tgt a1 [v8, v11]).bind fun g12 => (oneO C g12.1 g12.2 s).bind fun p13 =>
 (O.extract p13.1 0).bind fun v14 =>
 (O.extract p13.1 1).bind fun v15 =>
 (O.extract p13.1 2).bind fun v16 =>
 jn (fun (j823_38 : Value) (js823 : St H) =>
 jn (fun (j838_10 : Value) =>
 (O.bop .neq 26 j838_10 (Go.Value.int Go.IntKind.i64 0)).bind fun v49 =>
 (O.boolO v49).bind fun b50 => cond b50 (
 (O.nilCheck a0).bind fun v51 =>
 (O.fieldAddr 153 v51 2).bind fun v52 =>
 (O.store js823 26 v52 j838_10).bind fun s53 =>
 some [((fzV 2 #[]), s53)]) (
 (O.nilCheck a0).bind fun v54 =>
 (O.fieldAddr 153 v54 1).bind fun v55 =>
 (O.store js823 3 v55 v15).bind fun s56 =>
 some [(v14, s56)])) fun k838 =>
 (O.boolO j823_38).bind fun b40 => cond b40 (
 k838 (Go.Value.int Go.IntKind.i64 190)) (
 k838 v16)) fun k823 =>
 (O.bop .eql 26 v16 (Go.Value.int Go.IntKind.i64 0)).bind fun v17 =>
 gd v17 (
 (O.tgt a2 [v14]).bind fun g18 => (C g18.1 g18.2 p13.2).bind fun L19 => manyK L19 fun v20 s21 =>
 (O.uop .not v20).bind fun v22 =>
 k823 v22 s21) (
 k823 (.bool false) p13.2) (
 none))
theorem f183_r (C : OracleJ H) (n : Nat) (a0 : Value) (a1 : Value) (a2 : Value) (s : St H) : bodyD Try.prog false C n 183 Try.f183 [a0, a1, a2] s = f183 (dOps (H := H) Try.prog) C n a0 a1 a2 s := by kernel_rfl
/-! tidepole/rec.whatever[tidepole/api.Labels] -/
noncomputable def f184 (O : Ops H) (C : OracleJ H) (n : Nat) (a0 : Value) (s : St H) : Option (List (Value × St H)) :=
 some [((.bool true), s)]
theorem f184_r (C : OracleJ H) (n : Nat) (a0 : Value) (s : St H) : bodyD Try.prog false C n 184 Try.f184 [a0] s = f184 (dOps (H := H) Try.prog) C n a0 s := by kernel_rfl
/-! tidepole/rec.each[tidepole/api.Point] -/
def f185_l0_m (i0 : Value) (i1 : Value) (i7 : Value) (i8 : Value) (x : Value × Value × Value) : List Value := [i0, i1, undefV, undefV, x.1, x.2.1, dc, i7, i8, x.2.2, dc, dc, dc, dc, dc, dc, dc, dc, dc, dc, dc, dc, dc, undefV]
noncomputable def f185_l0 (O : Ops H) (C : OracleJ H) (n : Nat) (i0 : Value) (i1 : Value) (i8 : Value) (nx : (Value × Value × Value) → St H → Option (List (Value × St H))) (kx : Nat → (Value × Value × Value) → St H → Option (List (Value × St H))) (kr : (Value × Value × Value) → St H → Option (List (Value × St H))) (x : Value × Value × Value) (s : St H) : Option (List (Value × St H)) :=
 (O.bop .lss 70 x.2.2 i8).bind fun v4 =>
 (O.boolO v4).bind fun b5 => cond b5 (
 (O.tgt i1 []).bind fun g6 => (C g6.1 g6.2 s).bind fun L7 => manyK L7 fun v8 s9 =>
 (O.alloc s9 142).bind fun p10 =>
 (O.store p10.2 142 p10.1 v8).bind fun s11 =>
 (O.nilCheck i0).bind fun v12 =>
 (O.fieldAddr 153 v12 2).bind fun v13 =>
 (O.load s11 26 v13).bind fun v14 =>
 (O.bop .neq 26 v14 (Go.Value.int Go.IntKind.i64 0)).bind fun v15 =>
 (O.boolO v15).bind fun b16 => cond b16 (
 kr ((fzV 2 #[]), x.2.1, x.2.2) s11) (
 (O.load s11 142 p10.1).bind fun v17 =>
 (O.buildSlice false s11 66 1 [(0, v17)]).bind fun p18 =>
 (O.append false p18.2 66 66 x.2.1 p18.1).bind fun p19 =>
 (O.bop .add 70 x.2.2 (Go.Value.int Go.IntKind.u64 1)).bind fun v20 =>
 nx (x.1, p19.1, v20) p19.2)) (
 kx 0 (x.1, x.2.1, x.2.2) s)
theorem f185_l0_b (C : OracleJ H) (n : Nat) (i0 : Value) (i1 : Value) (i7 : Value) (i8 : Value) (x : Value × Value × Value) (s : St H) (nx : List Value → St H → Option (List (Value × St H))) (K : Ex → List Value → St H → Option (List (Value × St H))) :
 exec Try.prog false C n 185 none (cdp Try.f185 [1, 1, 0, 1, 0, 0]) (f185_l0_m i0 i1 i7 i8 x) s (kIter (scratch (cdp Try.f185 [1, 1, 0, 1, 0, 0])) nx K) = f185_l0 (dOps (H := H) Try.prog) C n i0 i1 i8 (fun x s => nx (f185_l0_m i0 i1 i7 i8 x) s) (fun i x s => K (.exit i) (f185_l0_m i0 i1 i7 i8 x) s) (fun x s => K .ret (f185_l0_m i0 i1 i7 i8 x) s) x s := by kernel_rfl
theorem f185_l0_e (C : OracleJ H) (n : Nat) (i0 : Value) (i1 : Value) (i7 : Value) (i8 : Value) (m : Nat) (x : Value × Value × Value) (s : St H) (K : Ex → List Value → St H → Option (List (Value × St H))) :
 iter (fun t s k => exec Try.prog false C n 185 none (cdp Try.f185 [1, 1, 0, 1, 0, 0]) t s k) (scratch (cdp Try.f185 [1, 1, 0, 1, 0, 0])) m (f185_l0_m i0 i1 i7 i8 x) s K = iterS (f185_l0 (dOps (H := H) Try.prog) C n i0 i1 i8) (fun i x s => K (.exit i) (f185_l0_m i0 i1 i7 i8 x) s) (fun x s => K .ret (f185_l0_m i0 i1 i7 i8 x) s) m x s :=
   iter_eq (f185_l0_m i0 i1 i7 i8) (f185_l0 (dOps (H := H) Try.prog) C n i0 i1 i8) (fun x s nx K => f185_l0_b C n i0 i1 i7 i8 x s nx K) K m x s
noncomputable def f185 (O : Ops H) (C : OracleJ H) (n : Nat) (a0 : Value) (a1 : Value) (s : St H) : Option (List (Value × St H)) :=
 (C (.fn 152) [a0, (Go.Value.int Go.IntKind.u64 4096)] s).bind fun L1 => manyK L1 fun v2 s3 =>
 iterS (f185_l0 O C n a0 a1 v2 )
 (fun i21 x22 s23 => (bif Nat.beq i21 0 then
 some [(x22.2.1, s23)] else none))
 (fun x24 s25 => some [(x24.1, s25)]) n ((fzV 2 #[]), (fzV 2 #[]), (Go.Value.int Go.IntKind.u64 0)) s3
theorem f185_l0_k (C : OracleJ H) (n : Nat) (i0 : Value) (i1 : Value) (i7 : Value) (i8 : Value) (i : Nat) (x : Value × Value × Value) (s : St H) : (kBlock 0 (kSeq Try.prog false C n 185 none (cdp Try.f185 [1, 1, 1]) (kFun Try.prog Try.f185))) (.exit i) (f185_l0_m i0 i1 i7 i8 x) s =
 (bif Nat.beq i 0 then
 some [(x.2.1, s)] else none) := by kernel_rfl
theorem f185_r (C : OracleJ H) (n : Nat) (a0 : Value) (a1 : Value) (s : St H) : bodyD Try.prog false C n 185 Try.f185 [a0, a1] s = f185 (dOps (H := H) Try.prog) C n a0 a1 s := by
  have h1 : bodyD Try.prog false C n 185 Try.f185 [a0, a1] s =
 (C (.fn 152) [a0, (Go.Value.int Go.IntKind.u64 4096)] s).bind fun L26 => manyK L26 fun v27 s28 =>
 iter (fun t s k => exec Try.prog false C n 185 none (cdp Try.f185 [1, 1, 0, 1, 0, 0]) t s k) (scratch (cdp Try.f185 [1, 1, 0, 1, 0, 0])) n (f185_l0_m a0 a1 a0 v27 ((fzV 2 #[]), (fzV 2 #[]), (Go.Value.int Go.IntKind.u64 0))) s28 (kBlock 0 (kSeq Try.prog false C n 185 none (cdp Try.f185 [1, 1, 1]) (kFun Try.prog Try.f185))) := by kernel_rfl
  rw [h1]
  simp only [f185_l0_e, f185_l0_k]
  show _ = f185 (dOps (H := H) Try.prog) C n a0 a1 s
  kernel_rfl
/-! (*tidepole/rec.reader).points$1 -/
noncomputable def f186 (O : Ops H) (C : OracleJ H) (n : Nat) (a0 : Value) (a1 : Value) (s : St H) : Option (List (Value × St H)) :=
 (O.alloc s 142).bind fun p1 =>
 (O.load p1.2 151 a0).bind fun v2 =>
 (C (.fn 152) [v2, (Go.Value.int Go.IntKind.u64 18446744073709551615)] p1.2).bind fun L3 => manyK L3 fun v4 s5 =>
 (O.build 142 [(0, v4)]).bind fun v6 =>
 (O.alloc s5 142).bind fun p7 =>
 (O.store p7.2 142 p7.1 v6).bind fun s8 =>
 (O.load s8 3 a1).bind fun v9 =>
 (O.load s8 151 a0).bind fun v10 =>
 (oneO C (.fn 187) [v10, (.func (.func 188) #[] #[]), (.func (.func 189) #[] #[a1])] s8).bind fun p11 =>
 (O.bop .add 3 v9 p11.1).bind fun v12 =>
 (O.store p11.2 3 a1 v12).bind fun s13 =>
 bif (eqO H (O.load s8 3 a1) v9 && (eqO H (O.load p11.2 3 a1) v9 && (true))) && (true) then
 (O.load s13 3 a1).bind fun v14 =>
 (O.load s13 151 a0).bind fun v15 =>
 (oneO C (.fn 190) [v15, (.func (.func 191) #[] #[]), (.func (.func 192) #[] #[])] s13).bind fun p16 =>
 (O.build 140 [(0, v14), (1, p16.1)]).bind fun v17 =>
 (O.fieldAddr 142 p7.1 1).bind fun v18 =>
 (O.store p16.2 140 v18 v17).bind fun s19 =>
 bif (eqO H (O.load s13 3 a1) v14 && (eqO H (O.load p16.2 3 a1) v14 && (true))) && (true) then
 (O.load s19 142 p7.1).bind fun v20 =>
 (O.store s19 142 p1.1 v20).bind fun s21 =>
 (O.load s21 142 p1.1).bind fun v22 => some [(v22, s21)]
 else none
 else none
theorem f186_r (C : OracleJ H) (n : Nat) (a0 : Value) (a1 : Value) (s : St H) : bodyD Try.prog false C n 186 Try.f186 [a0, a1] s = f186 (dOps (H := H) Try.prog) C n a0 a1 s := by kernel_rfl
/-! tidepole/rec.take[int] -/
noncomputable def f187 (O : Ops H) (C : OracleJ H) (n : Nat) (a0 : Value) (a1 : Value) (a2 : Value) (s : St H) : Option (List (Value × St H)) :=
 (O.nilCheck a0).bind fun v1 =>
 (O.fieldAddr 153 v1 2).bind fun v2 =>
 (O.load s 26 v2).bind fun v3 =>
 (O.bop .neq 26 v3 (Go.Value.int Go.IntKind.i64 0)).bind fun v4 =>
 (O.boolO v4).bind fun b5 => cond b5 (
 some [((Go.Value.int Go.IntKind.i64 0), s)]) (
 (O.nilCheck a0).bind fun v6 =>
 (O.fieldAddr 153 v6 0).bind fun v7 =>
 (O.load s 35 v7).bind fun v8 =>
 (O.nilCheck a0).bind fun v9 =>
 (O.fieldAddr 153 v9 1).bind fun v10 =>
 (O.load s 3 v10).bind fun v11 =>
 (O.tgt a1 [v8, v11]).bind fun g12 => (oneO C g12.1 g12.2 s).bind fun p13 =>
 (O.extract p13.1 0).bind fun v14 =>
 (O.extract p13.1 1).bind fun v15 =>
 (O.extract p13.1 2).bind fun v16 =>
 jn (fun (j885_38 : Value) (js885 : St H) =>
 jn (fun (j900_10 : Value) =>
 (O.bop .neq 26 j900_10 (Go.Value.int Go.IntKind.i64 0)).bind fun v49 =>
 (O.boolO v49).bind fun b50 => cond b50 (
 (O.nilCheck a0).bind fun v51 =>
 (O.fieldAddr 153 v51 2).bind fun v52 =>
 (O.store js885 26 v52 j900_10).bind fun s53 =>
 some [((Go.Value.int Go.IntKind.i64 0), s53)]) (
 (O.nilCheck a0).bind fun v54 =>
 (O.fieldAddr 153 v54 1).bind fun v55 =>
 (O.store js885 3 v55 v15).bind fun s56 =>
 some [(v14, s56)])) fun k900 =>
 (O.boolO j885_38).bind fun b40 => cond b40 (
 k900 (Go.Value.int Go.IntKind.i64 190)) (
 k900 v16)) fun k885 =>
 (O.bop .eql 26 v16 (Go.Value.int Go.IntKind.i64 0)).bind fun v17 =>
 gd v17 (
 (O.tgt a2 [v14]).bind fun g18 => (C g18.1 g18.2 p13.2).bind fun L19 => manyK L19 fun v20 s21 =>
 (O.uop .not v20).bind fun v22 =>
 k885 v22 s21) (
 k885 (.bool false) p13.2) (
 none))
theorem f187_r (C : OracleJ H) (n : Nat) (a0 : Value) (a1 : Value) (a2 : Value) (s : St H) : bodyD Try.prog false C n 187 Try.f187 [a0, a1, a2] s = f187 (dOps (H := H) Try.prog) C n a0 a1 a2 s := by kernel_rfl
/-! tidepole/vint.ReadInt -/
noncomputable def f188 (O : Ops H) (C : OracleJ H) (n : Nat) (a0 : Value) (a1 : Value) (s : St H) : Option (List (Value × St H)) :=
 (C (.fn 74) [a0, a1] s).bind fun L1 => manyK L1 fun v2 s3 =>
 (O.extract v2 0).bind fun v4 =>
 (O.extract v2 1).bind fun v5 =>
 (O.extract v2 2).bind fun v6 =>
 (O.bop .shr 70 v4 (Go.Value.int Go.IntKind.u64 1)).bind fun v7 =>
 (O.conv false s3 70 3 v7).bind fun p8 =>
 (O.bop .and 70 v4 (Go.Value.int Go.IntKind.u64 1)).bind fun v9 =>
 (O.conv false p8.2 70 3 v9).bind fun p10 =>
 (O.uop .neg p10.1).bind fun v11 =>
 (O.bop .xor 3 p8.1 v11).bind fun v12 =>
 some [(.tuple #[v12, v5, v6], p10.2)]
theorem f188_r (C : OracleJ H) (n : Nat) (a0 : Value) (a1 : Value) (s : St H) : bodyD Try.prog false C n 188 Try.f188 [a0, a1] s = f188 (dOps (H := H) Try.prog) C n a0 a1 s := by kernel_rfl
/-! (*tidepole/rec.reader).points$1$1 -/
noncomputable def f189 (O : Ops H) (C : OracleJ H) (n : Nat) (a0 : Value) (a1 : Value) (s : St H) : Option (List (Value × St H)) :=
 (O.bop .geq 3 a0 (Go.Value.int Go.IntKind.i64 (-35184372088832))).bind fun v1 =>
 gd v1 (
 (O.bop .leq 3 a0 (Go.Value.int Go.IntKind.i64 35184372088832)).bind fun v2 =>
 gd v2 (
 (O.load s 3 a1).bind fun v3 =>
 (O.bop .add 3 v3 a0).bind fun v4 =>
 (O.buildSlice false s 228 1 [(0, v4)]).bind fun p5 =>
 (C (.fn 143) [p5.1] p5.2).bind fun L6 => manyK L6 fun v7 s8 =>
 some [(v7, s8)]) (
 some [((.bool false), s)]) (
 none)) (
 some [((.bool false), s)]) (
 none)
theorem f189_r (C : OracleJ H) (n : Nat) (a0 : Value) (a1 : Value) (s : St H) : bodyD Try.prog false C n 189 Try.f189 [a0, a1] s = f189 (dOps (H := H) Try.prog) C n a0 a1 s := by kernel_rfl
/-! tidepole/rec.take[uint64] -/
noncomputable def f190 (O : Ops H) (C : OracleJ H) (n : Nat) (a0 : Value) (a1 : Value) (a2 : Value) (s : St H) : Option (List (Value × St H)) :=
 (O.nilCheck a0).bind fun v1 =>
 (O.fieldAddr 153 v1 2).bind fun v2 =>
 (O.load s 26 v2).bind fun v3 =>
 (O.bop .neq 26 v3 (Go.Value.int Go.IntKind.i64 0)).bind fun v4 =>
 (O.boolO v4).bind fun b5 => cond b5 (
 some [((Go.Value.int Go.IntKind.u64 0), s)]) (
 (O.nilCheck a0).bind fun v6 =>
 (O.fieldAddr 153 v6 0).bind fun v7 =>
 (O.load s 35 v7).bind fun v8 =>
 (O.nilCheck a0).bind fun v9 =>
 (O.fieldAddr 153 v9 1).bind fun v10 =>
 (O.load s 3 v10).bind fun v11 =>
 (O.tgt a1 [v8, v11]).bind fun g12 => (oneO C g12.1 g12.2 s).bind fun p13 =>
 (O.extract p13.1 0).bind fun v14 =>
 (O.extract p13.1 1).bind fun v15 =>
 (O.extract p13.1 2).bind fun v16 =>
 jn (fun (j925_38 : Value) (js925 : St H) =>
 jn (fun (j940_10 : Value) =>
 (O.bop .neq 26 j940_10 (Go.Value.int Go.IntKind.i64 0)).bind fun v49 =>
 (O.boolO v49).bind fun b50 => cond b50 (
 (O.nilCheck a0).bind fun v51 =>
 (O.fieldAddr 153 v51 2).bind fun v52 =>
 (O.store js925 26 v52 j940_10).bind fun s53 =>
 some [((Go.Value.int Go.IntKind.u64 0), s53)]) (
 (O.nilCheck a0).bind fun v54 =>
 (O.fieldAddr 153 v54 1).bind fun v55 =>
 (O.store js925 3 v55 v15).bind fun s56 =>
 some [(v14, s56)])) fun k940 =>
 (O.boolO j925_38).bind fun b40 => cond b40 (
 k940 (Go.Value.int Go.IntKind.i64 190)) (
 k940 v16)) fun k925 =>
 (O.bop .eql 26 v16 (Go.Value.int Go.IntKind.i64 0)).bind fun v17 =>
 gd v17 (
 (O.tgt a2 [v14]).bind fun g18 => (C g18.1 g18.2 p13.2).bind fun L19 => manyK L19 fun v20 s21 =>
 (O.uop .not v20).bind fun v22 =>
 k925 v22 s21) (
 k925 (.bool false) p13.2) (
 none))
theorem f190_r (C : OracleJ H) (n : Nat) (a0 : Value) (a1 : Value) (a2 : Value) (s : St H) : bodyD Try.prog false C n 190 Try.f190 [a0, a1, a2] s = f190 (dOps (H := H) Try.prog) C n a0 a1 a2 s := by kernel_rfl
/-! tidepole/rec.value -/
def f191_l0_m (i0 : Value) (i1 : Value) (i9 : Value) (i10 : Value) (i11 : Value) (i12 : Value) (i13 : Value) (x : Value × Value × Value) : List Value := [i0, i1, undefV, undefV, (Go.Value.int Go.IntKind.u64 0), (Go.Value.int Go.IntKind.i64 0), (Go.Value.int Go.IntKind.i64 0), x.1, x.2.1, i9, i10, i11, i12, i13, x.2.2, dc, dc, dc, dc, dc, dc, dc, dc, dc, dc, dc, dc, dc, dc, dc, undefV, undefV, undefV]
noncomputable def f191_l0 (O : Ops H) (C : OracleJ H) (n : Nat) (i0 : Value) (i1 : Value) (nx : (Value × Value × Value) → St H → Option (List (Value × St H))) (kx : Nat → (Value × Value × Value) → St H → Option (List (Value × St H))) (kr : (Value × Value × Value) → St H → Option (List (Value × St H))) (x : Value × Value × Value) (s : St H) : Option (List (Value × St H)) :=
 (O.bop .lss 3 x.2.2 (Go.Value.int Go.IntKind.i64 8)).bind fun v5 =>
 (O.boolO v5).bind fun b6 => cond b6 (
 (O.bop .add 3 i1 x.2.2).bind fun v7 =>
 (O.indexAddr 35 i0 v7).bind fun v8 =>
 (O.load s 5 v8).bind fun v9 =>
 (O.conv false s 5 70 v9).bind fun p10 =>
 (O.bop .mul 3 (Go.Value.int Go.IntKind.i64 8) x.2.2).bind fun v11 =>
 (O.bop .shl 70 p10.1 v11).bind fun v12 =>
 (O.bop .or 70 x.1 v12).bind fun v13 =>
 (O.bop .add 3 x.2.2 (Go.Value.int Go.IntKind.i64 1)).bind fun v14 =>
 nx (v13, x.2.2, v14) p10.2) (
 kx 0 (x.1, x.2.1, x.2.2) s)
theorem f191_l0_b (C : OracleJ H) (n : Nat) (i0 : Value) (i1 : Value) (i9 : Value) (i10 : Value) (i11 : Value) (i12 : Value) (i13 : Value) (x : Value × Value × Value) (s : St H) (nx : List Value → St H → Option (List (Value × St H))) (K : Ex → List Value → St H → Option (List (Value × St H))) :
 exec Try.prog false C n 191 none (cdp Try.f191 [1, 1, 1, 0, 1, 0, 0]) (f191_l0_m i0 i1 i9 i10 i11 i12 i13 x) s (kIter (scratch (cdp Try.f191 [1, 1, 1, 0, 1, 0, 0])) nx K) = f191_l0 (dOps (H := H) Try.prog) C n i0 i1 (fun x s => nx (f191_l0_m i0 i1 i9 i10 i11 i12 i13 x) s) (fun i x s => K (.exit i) (f191_l0_m i0 i1 i9 i10 i11 i12 i13 x) s) (fun x s => K .ret (f191_l0_m i0 i1 i9 i10 i11 i12 i13 x) s) x s := by kernel_rfl
theorem f191_l0_e (C : OracleJ H) (n : Nat) (i0 : Value) (i1 : Value) (i9 : Value) (i10 : Value) (i11 : Value) (i12 : Value) (i13 : Value) (m : Nat) (x : Value × Value × Value) (s : St H) (K : Ex → List Value → St H → Option (List (Value × St H))) :
 iter (fun t s k => exec Try.prog false C n 191 none (cdp Try.f191 [1, 1, 1, 0, 1, 0, 0]) t s k) (scratch (cdp Try.f191 [1, 1, 1, 0, 1, 0, 0])) m (f191_l0_m i0 i1 i9 i10 i11 i12 i13 x) s K = iterS (f191_l0 (dOps (H := H) Try.prog) C n i0 i1) (fun i x s => K (.exit i) (f191_l0_m i0 i1 i9 i10 i11 i12 i13 x) s) (fun x s => K .ret (f191_l0_m i0 i1 i9 i10 i11 i12 i13 x) s) m x s :=
   iter_eq (f191_l0_m i0 i1 i9 i10 i11 i12 i13) (f191_l0 (dOps (H := H) Try.prog) C n i0 i1) (fun x s nx K => f191_l0_b C n i0 i1 i9 i10 i11 i12 i13 x s nx K) K m x s
noncomputable def f191 (O : Ops H) (C : OracleJ H) (n : Nat) (a0 : Value) (a1 : Value) (s : St H) : Option (List (Value × St H)) :=
 (O.len s 35 a0).bind fun v1 =>
 (O.bop .sub 3 v1 a1).bind fun v2 =>
 (O.bop .lss 3 v2 (Go.Value.int Go.IntKind.i64 8)).bind fun v3 =>
 (O.boolO v3).bind fun b4 => cond b4 (
 some [(.tuple #[(Go.Value.int Go.IntKind.u64 0), (Go.Value.int Go.IntKind.i64 0), (Go.Value.int Go.IntKind.i64 7)], s)]) (
 iterS (f191_l0 O C n a0 a1 )
 (fun i15 x16 s17 => (bif Nat.beq i15 0 then
 (O.bop .add 3 a1 (Go.Value.int Go.IntKind.i64 8)).bind fun v20 =>
 some [(.tuple #[x16.1, v20, (Go.Value.int Go.IntKind.i64 0)], s17)] else none))
 (fun x18 s19 => some [(.tuple #[(Go.Value.int Go.IntKind.u64 0), (Go.Value.int Go.IntKind.i64 0), (Go.Value.int Go.IntKind.i64 0)], s19)]) n ((Go.Value.int Go.IntKind.u64 0), undefV, (Go.Value.int Go.IntKind.i64 0)) s)
theorem f191_l0_k (C : OracleJ H) (n : Nat) (i0 : Value) (i1 : Value) (i9 : Value) (i10 : Value) (i11 : Value) (i12 : Value) (i13 : Value) (i : Nat) (x : Value × Value × Value) (s : St H) : (kBlock 0 (kSeq Try.prog false C n 191 none (cdp Try.f191 [1, 1, 1, 1]) (kFun Try.prog Try.f191))) (.exit i) (f191_l0_m i0 i1 i9 i10 i11 i12 i13 x) s =
 (bif Nat.beq i 0 then
 ((dOps (H := H) Try.prog).bop .add 3 i1 (Go.Value.int Go.IntKind.i64 8)).bind fun v26 =>
 some [(.tuple #[x.1, v26, (Go.Value.int Go.IntKind.i64 0)], s)] else none) := by kernel_rfl
theorem f191_r (C : OracleJ H) (n : Nat) (a0 : Value) (a1 : Value) (s : St H) : bodyD Try.prog false C n 191 Try.f191 [a0, a1] s = f191 (dOps (H := H) Try.prog) C n a0 a1 s := by
  have h1 : bodyD Try.prog false C n 191 Try.f191 [a0, a1] s =
 ((dOps (H := H) Try.prog).len s 35 a0).bind fun v21 =>
 ((dOps (H := H) Try.prog).bop .sub 3 v21 a1).bind fun v22 =>
 ((dOps (H := H) Try.prog).bop .lss 3 v22 (Go.Value.int Go.IntKind.i64 8)).bind fun v23 =>
 ((dOps (H := H) Try.prog).boolO v23).bind fun b24 => cond b24 (
 some [(.tuple #[(Go.Value.int Go.IntKind.u64 0), (Go.Value.int Go.IntKind.i64 0), (Go.Value.int Go.IntKind.i64 7)], s)]) (
 iter (fun t s k => exec Try.prog false C n 191 none (cdp Try.f191 [1, 1, 1, 0, 1, 0, 0]) t s k) (scratch (cdp Try.f191 [1, 1, 1, 0, 1, 0, 0])) n (f191_l0_m a0 a1 a0 v21 a1 v22 v23 ((Go.Value.int Go.IntKind.u64 0), undefV, (Go.Value.int Go.IntKind.i64 0))) s (kBlock 0 (kSeq Try.prog false C n 191 none (cdp Try.f191 [1, 1, 1, 1]) (kFun Try.prog Try.f191)))) := by kernel_rfl
  rw [h1]
  simp only [f191_l0_e, f191_l0_k]
  show _ = f191 (dOps (H := H) Try.prog) C n a0 a1 s
  kernel_rfl
/-! tidepole/rec.whatever[uint64] -/
noncomputable def f192 (O : Ops H) (C : OracleJ H) (n : Nat) (a0 : Value) (s : St H) : Option (List (Value × St H)) :=
 some [((.bool true), s)]
theorem f192_r (C : OracleJ H) (n : Nat) (a0 : Value) (s : St H) : bodyD Try.prog false C n 192 Try.f192 [a0] s = f192 (dOps (H := H) Try.prog) C n a0 s := by kernel_rfl
/-! tidepole/rec.each[uint64] -/
def f193_l0_m (i0 : Value) (i1 : Value) (i7 : Value) (i8 : Value) (x : Value × Value × Value × Value) : List Value := [i0, i1, undefV, undefV, x.1, x.2.1, x.2.2.1, i7, i8, x.2.2.2, dc, dc, dc, dc, dc, dc, dc, dc, dc, dc, dc, dc, dc, undefV]
noncomputable def f193_l0 (O : Ops H) (C : OracleJ H) (n : Nat) (i0 : Value) (i1 : Value) (i8 : Value) (nx : (Value × Value × Value × Value) → St H → Option (List (Value × St H))) (kx : Nat → (Value × Value × Value × Value) → St H → Option (List (Value × St H))) (kr : (Value × Value × Value × Value) → St H → Option (List (Value × St H))) (x : Value × Value × Value × Value) (s : St H) : Option (List (Value × St H)) :=
 (O.bop .lss 70 x.2.2.2 i8).bind fun v4 =>
 (O.boolO v4).bind fun b5 => cond b5 (
 (O.tgt i1 []).bind fun g6 => (C g6.1 g6.2 s).bind fun L7 => manyK L7 fun v8 s9 =>
 (O.nilCheck i0).bind fun v10 =>
 (O.fieldAddr 153 v10 2).bind fun v11 =>
 (O.load s9 26 v11).bind fun v12 =>
 (O.bop .neq 26 v12 (Go.Value.int Go.IntKind.i64 0)).bind fun v13 =>
 (O.boolO v13).bind fun b14 => cond b14 (
 kr ((fzV 2 #[]), x.2.1, v8, x.2.2.2) s9) (
 (O.buildSlice false s9 67 1 [(0, v8)]).bind fun p15 =>
 (O.append false p15.2 67 67 x.2.1 p15.1).bind fun p16 =>
 (O.bop .add 70 x.2.2.2 (Go.Value.int Go.IntKind.u64 1)).bind fun v17 =>
 nx (x.1, p16.1, v8, v17) p16.2)) (
 kx 0 (x.1, x.2.1, x.2.2.1, x.2.2.2) s)
theorem f193_l0_b (C : OracleJ H) (n : Nat) (i0 : Value) (i1 : Value) (i7 : Value) (i8 : Value) (x : Value × Value × Value × Value) (s : St H) (nx : List Value → St H → Option (List (Value × St H))) (K : Ex → List Value → St H → Option (List (Value × St H))) :
 exec Try.prog false C n 193 none (cdp Try.f193 [1, 1, 0, 1, 0, 0]) (f193_l0_m i0 i1 i7 i8 x) s (kIter (scratch (cdp Try.f193 [1, 1, 0, 1, 0, 0])) nx K) = f193_l0 (dOps (H := H) Try.prog) C n i0 i1 i8 (fun x s => nx (f193_l0_m i0 i1 i7 i8 x) s) (fun i x s => K (.exit i) (f193_l0_m i0 i1 i7 i8 x) s) (fun x s => K .ret (f193_l0_m i0 i1 i7 i8 x) s) x s := by kernel_rfl
theorem f193_l0_e (C : OracleJ H) (n : Nat) (i0 : Value) (i1 : Value) (i7 : Value) (i8 : Value) (m : Nat) (x : Value × Value × Value × Value) (s : St H) (K : Ex → List Value → St H → Option (List (Value × St H))) :
 iter (fun t s k => exec Try.prog false C n 193 none (cdp Try.f193 [1, 1, 0, 1, 0, 0]) t s k) (scratch (cdp Try.f193 [1, 1, 0, 1, 0, 0])) m (f193_l0_m i0 i1 i7 i8 x) s K = iterS (f193_l0 (dOps (H := H) Try.prog) C n i0 i1 i8) (fun i x s => K (.exit i) (f193_l0_m i0 i1 i7 i8 x) s) (fun x s => K .ret (f193_l0_m i0 i1 i7 i8 x) s) m x s :=
   iter_eq (f193_l0_m i0 i1 i7 i8) (f193_l0 (dOps (H := H) Try.prog) C n i0 i1 i8) (fun x s nx K => f193_l0_b C n i0 i1 i7 i8 x s nx K) K m x s
noncomputable def f193 (O : Ops H) (C : OracleJ H) (n : Nat) (a0 : Value) (a1 : Value) (s : St H) : Option (List (Value × St H)) :=
 (C (.fn 152) [a0, (Go.Value.int Go.IntKind.u64 4096)] s).bind fun L1 => manyK L1 fun v2 s3 =>
 iterS (f193_l0 O C n a0 a1 v2 )
 (fun i18 x19 s20 => (bif Nat.beq i18 0 then
 some [(x19.2.1, s20)] else none))
 (fun x21 s22 => some [(x21.1, s22)]) n ((fzV 2 #[]), (fzV 2 #[]), undefV, (Go.Value.int Go.IntKind.u64 0)) s3
theorem f193_l0_k (C : OracleJ H) (n : Nat) (i0 : Value) (i1 : Value) (i7 : Value) (i8 : Value) (i : Nat) (x : Value × Value × Value × Value) (s : St H) : (kBlock 0 (kSeq Try.prog false C n 193 none (cdp Try.f193 [1, 1, 1]) (kFun Try.prog Try.f193))) (.exit i) (f193_l0_m i0 i1 i7 i8 x) s =
 (bif Nat.beq i 0 then
 some [(x.2.1, s)] else none) := by kernel_rfl
theorem f193_r (C : OracleJ H) (n : Nat) (a0 : Value) (a1 : Value) (s : St H) : bodyD Try.prog false C n 193 Try.f193 [a0, a1] s = f193 (dOps (H := H) Try.prog) C n a0 a1 s := by
  have h1 : bodyD Try.prog false C n 193 Try.f193 [a0, a1] s =
 (C (.fn 152) [a0, (Go.Value.int Go.IntKind.u64 4096)] s).bind fun L23 => manyK L23 fun v24 s25 =>
 iter (fun t s k => exec Try.prog false C n 193 none (cdp Try.f193 [1, 1, 0, 1, 0, 0]) t s k) (scratch (cdp Try.f193 [1, 1, 0, 1, 0, 0])) n (f193_l0_m a0 a1 a0 v24 ((fzV 2 #[]), (fzV 2 #[]), undefV, (Go.Value.int Go.IntKind.u64 0))) s25 (kBlock 0 (kSeq Try.prog false C n 193 none (cdp Try.f193 [1, 1, 1]) (kFun Try.prog Try.f193))) := by kernel_rfl
  rw [h1]
  simp only [f193_l0_e, f193_l0_k]
  show _ = f193 (dOps (H := H) Try.prog) C n a0 a1 s
  kernel_rfl
/-! (*tidepole/rec.reader).ids$1 -/
noncomputable def f194 (O : Ops H) (C : OracleJ H) (n : Nat) (a0 : Value) (a1 : Value) (s : St H) : Option (List (Value × St H)) :=
 (O.load s 151 a0).bind fun v1 =>
 (O.load s 70 a1).bind fun v2 =>
 (C (.fn 182) [v1, v2] s).bind fun L3 => manyK L3 fun v4 s5 =>
 (O.store s5 70 a1 v4).bind fun s6 =>
 (O.load s6 70 a1).bind fun v7 =>
 some [(v7, s6)]
theorem f194_r (C : OracleJ H) (n : Nat) (a0 : Value) (a1 : Value) (s : St H) : bodyD Try.prog false C n 194 Try.f194 [a0, a1] s = f194 (dOps (H := H) Try.prog) C n a0 a1 s := by kernel_rfl
/-! (*tidepole/rec.reader).number$1 -/
noncomputable def f195 (O : Ops H) (C : OracleJ H) (n : Nat) (a0 : Value) (a1 : Value) (s : St H) : Option (List (Value × St H)) :=
 (O.load s 70 a1).bind fun v1 =>
 (O.bop .leq 70 a0 v1).bind fun v2 =>
 some [(v2, s)]
theorem f195_r (C : OracleJ H) (n : Nat) (a0 : Value) (a1 : Value) (s : St H) : bodyD Try.prog false C n 195 Try.f195 [a0, a1] s = f195 (dOps (H := H) Try.prog) C n a0 a1 s := by kernel_rfl
/-! slices.Index[[]uint64,uint64] -/
def f207_l0_m (i0 : Value) (i1 : Value) (i6 : Value) (i7 : Value) (x : Value × Value × Value) : List Value := [i0, i1, undefV, undefV, x.1, x.2.1, i6, i7, x.2.2, dc, dc, dc, dc, dc, dc, dc, dc, dc, dc]
noncomputable def f207_l0 (O : Ops H) (C : OracleJ H) (n : Nat) (i0 : Value) (i1 : Value) (i7 : Value) (nx : (Value × Value × Value) → St H → Option (List (Value × St H))) (kx : Nat → (Value × Value × Value) → St H → Option (List (Value × St H))) (kr : (Value × Value × Value) → St H → Option (List (Value × St H))) (x : Value × Value × Value) (s : St H) : Option (List (Value × St H)) :=
 (O.bop .lss 3 x.2.2 i7).bind fun v2 =>
 (O.boolO v2).bind fun b3 => cond b3 (
 (O.indexAddr 67 i0 x.2.2).bind fun v4 =>
 (O.load s 70 v4).bind fun v5 =>
 (O.bop .eql 70 i1 v5).bind fun v6 =>
 (O.boolO v6).bind fun b7 => cond b7 (
 kr (x.2.2, x.2.2, x.2.2) s) (
 (O.bop .add 3 x.2.2 (Go.Value.int Go.IntKind.i64 1)).bind fun v8 =>
 nx (x.1, x.2.2, v8) s)) (
 kx 0 (x.1, x.2.1, x.2.2) s)
theorem f207_l0_b (C : OracleJ H) (n : Nat) (i0 : Value) (i1 : Value) (i6 : Value) (i7 : Value) (x : Value × Value × Value) (s : St H) (nx : List Value → St H → Option (List (Value × St H))) (K : Ex → List Value → St H → Option (List (Value × St H))) :
 exec Try.prog false C n 207 none (cdp Try.f207 [1, 0, 1, 0, 0]) (f207_l0_m i0 i1 i6 i7 x) s (kIter (scratch (cdp Try.f207 [1, 0, 1, 0, 0])) nx K) = f207_l0 (dOps (H := H) Try.prog) C n i0 i1 i7 (fun x s => nx (f207_l0_m i0 i1 i6 i7 x) s) (fun i x s => K (.exit i) (f207_l0_m i0 i1 i6 i7 x) s) (fun x s => K .ret (f207_l0_m i0 i1 i6 i7 x) s) x s := by kernel_rfl
theorem f207_l0_e (C : OracleJ H) (n : Nat) (i0 : Value) (i1 : Value) (i6 : Value) (i7 : Value) (m : Nat) (x : Value × Value × Value) (s : St H) (K : Ex → List Value → St H → Option (List (Value × St H))) :
 iter (fun t s k => exec Try.prog false C n 207 none (cdp Try.f207 [1, 0, 1, 0, 0]) t s k) (scratch (cdp Try.f207 [1, 0, 1, 0, 0])) m (f207_l0_m i0 i1 i6 i7 x) s K = iterS (f207_l0 (dOps (H := H) Try.prog) C n i0 i1 i7) (fun i x s => K (.exit i) (f207_l0_m i0 i1 i6 i7 x) s) (fun x s => K .ret (f207_l0_m i0 i1 i6 i7 x) s) m x s :=
   iter_eq (f207_l0_m i0 i1 i6 i7) (f207_l0 (dOps (H := H) Try.prog) C n i0 i1 i7) (fun x s nx K => f207_l0_b C n i0 i1 i6 i7 x s nx K) K m x s
noncomputable def f207 (O : Ops H) (C : OracleJ H) (n : Nat) (a0 : Value) (a1 : Value) (s : St H) : Option (List (Value × St H)) :=
 (O.len s 67 a0).bind fun v1 =>
 iterS (f207_l0 O C n a0 a1 v1 )
 (fun i9 x10 s11 => (bif Nat.beq i9 0 then
 some [((Go.Value.int Go.IntKind.i64 (-1)), s11)] else none))
 (fun x12 s13 => some [(x12.1, s13)]) n ((Go.Value.int Go.IntKind.i64 0), undefV, (Go.Value.int Go.IntKind.i64 0)) s
theorem f207_l0_k (C : OracleJ H) (n : Nat) (i0 : Value) (i1 : Value) (i6 : Value) (i7 : Value) (i : Nat) (x : Value × Value × Value) (s : St H) : (kBlock 0 (kSeq Try.prog false C n 207 none (cdp Try.f207 [1, 1]) (kFun Try.prog Try.f207))) (.exit i) (f207_l0_m i0 i1 i6 i7 x) s =
 (bif Nat.beq i 0 then
 some [((Go.Value.int Go.IntKind.i64 (-1)), s)] else none) := by kernel_rfl
theorem f207_r (C : OracleJ H) (n : Nat) (a0 : Value) (a1 : Value) (s : St H) : bodyD Try.prog false C n 207 Try.f207 [a0, a1] s = f207 (dOps (H := H) Try.prog) C n a0 a1 s := by
  have h1 : bodyD Try.prog false C n 207 Try.f207 [a0, a1] s =
 ((dOps (H := H) Try.prog).len s 67 a0).bind fun v14 =>
 iter (fun t s k => exec Try.prog false C n 207 none (cdp Try.f207 [1, 0, 1, 0, 0]) t s k) (scratch (cdp Try.f207 [1, 0, 1, 0, 0])) n (f207_l0_m a0 a1 a0 v14 ((Go.Value.int Go.IntKind.i64 0), undefV, (Go.Value.int Go.IntKind.i64 0))) s (kBlock 0 (kSeq Try.prog false C n 207 none (cdp Try.f207 [1, 1]) (kFun Try.prog Try.f207))) := by kernel_rfl
  rw [h1]
  simp only [f207_l0_e, f207_l0_k]
  show _ = f207 (dOps (H := H) Try.prog) C n a0 a1 s
  kernel_rfl
/-! slices.IndexFunc[[]int,int] -/
def f208_l0_m (i0 : Value) (i1 : Value) (i6 : Value) (i7 : Value) (x : Value × Value × Value) : List Value := [i0, i1, undefV, undefV, x.1, x.2.1, i6, i7, x.2.2, dc, dc, dc, dc, dc, dc, dc, dc, dc, dc]
noncomputable def f208_l0 (O : Ops H) (C : OracleJ H) (n : Nat) (i0 : Value) (i1 : Value) (i7 : Value) (nx : (Value × Value × Value) → St H → Option (List (Value × St H))) (kx : Nat → (Value × Value × Value) → St H → Option (List (Value × St H))) (kr : (Value × Value × Value) → St H → Option (List (Value × St H))) (x : Value × Value × Value) (s : St H) : Option (List (Value × St H)) :=
 (O.bop .lss 3 x.2.2 i7).bind fun v2 =>
 (O.boolO v2).bind fun b3 => cond b3 (
 (O.indexAddr 228 i0 x.2.2).bind fun v4 =>
 (O.load s 3 v4).bind fun v5 =>
 (O.tgt i1 [v5]).bind fun g6 => (C g6.1 g6.2 s).bind fun L7 => manyK L7 fun v8 s9 =>
 (O.boolO v8).bind fun b10 => cond b10 (
 kr (x.2.2, x.2.2, x.2.2) s9) (
 (O.bop .add 3 x.2.2 (Go.Value.int Go.IntKind.i64 1)).bind fun v11 =>
 nx (x.1, x.2.2, v11) s9)) (
 kx 0 (x.1, x.2.1, x.2.2) s)
theorem f208_l0_b (C : OracleJ H) (n : Nat) (i0 : Value) (i1 : Value) (i6 : Value) (i7 : Value) (x : Value × Value × Value) (s : St H) (nx : List Value → St H → Option (List (Value × St H))) (K : Ex → List Value → St H → Option (List (Value × St H))) :
 exec Try.prog false C n 208 none (cdp Try.f208 [1, 0, 1, 0, 0]) (f208_l0_m i0 i1 i6 i7 x) s (kIter (scratch (cdp Try.f208 [1, 0, 1, 0, 0])) nx K) = f208_l0 (dOps (H := H) Try.prog) C n i0 i1 i7 (fun x s => nx (f208_l0_m i0 i1 i6 i7 x) s) (fun i x s => K (.exit i) (f208_l0_m i0 i1 i6 i7 x) s) (fun x s => K .ret (f208_l0_m i0 i1 i6 i7 x) s) x s := by kernel_rfl
theorem f208_l0_e (C : OracleJ H) (n : Nat) (i0 : Value) (i1 : Value) (i6 : Value) (i7 : Value) (m : Nat) (x : Value × Value × Value) (s : St H) (K : Ex → List Value → St H → Option (List (Value × St H))) :
 iter (fun t s k => exec Try.prog false C n 208 none (cdp Try.f208 [1, 0, 1, 0, 0]) t s k) (scratch (cdp Try.f208 [1, 0, 1, 0, 0])) m (f208_l0_m i0 i1 i6 i7 x) s K = iterS (f208_l0 (dOps (H := H) Try.prog) C n i0 i1 i7) (fun i x s => K (.exit i) (f208_l0_m i0 i1 i6 i7 x) s) (fun x s => K .ret (f208_l0_m i0 i1 i6 i7 x) s) m x s :=
   iter_eq (f208_l0_m i0 i1 i6 i7) (f208_l0 (dOps (H := H) Try.prog) C n i0 i1 i7) (fun x s nx K => f208_l0_b C n i0 i1 i6 i7 x s nx K) K m x s
noncomputable def f208 (O : Ops H) (C : OracleJ H) (n : Nat) (a0 : Value) (a1 : Value) (s : St H) : Option (List (Value × St H)) :=
 (O.len s 228 a0).bind fun v1 =>
 iterS (f208_l0 O C n a0 a1 v1 )
 (fun i12 x13 s14 => (bif Nat.beq i12 0 then
 some [((Go.Value.int Go.IntKind.i64 (-1)), s14)] else none))
 (fun x15 s16 => some [(x15.1, s16)]) n ((Go.Value.int Go.IntKind.i64 0), undefV, (Go.Value.int Go.IntKind.i64 0)) s
theorem f208_l0_k (C : OracleJ H) (n : Nat) (i0 : Value) (i1 : Value) (i6 : Value) (i7 : Value) (i : Nat) (x : Value × Value × Value) (s : St H) : (kBlock 0 (kSeq Try.prog false C n 208 none (cdp Try.f208 [1, 1]) (kFun Try.prog Try.f208))) (.exit i) (f208_l0_m i0 i1 i6 i7 x) s =
 (bif Nat.beq i 0 then
 some [((Go.Value.int Go.IntKind.i64 (-1)), s)] else none) := by kernel_rfl
theorem f208_r (C : OracleJ H) (n : Nat) (a0 : Value) (a1 : Value) (s : St H) : bodyD Try.prog false C n 208 Try.f208 [a0, a1] s = f208 (dOps (H := H) Try.prog) C n a0 a1 s := by
  have h1 : bodyD Try.prog false C n 208 Try.f208 [a0, a1] s =
 ((dOps (H := H) Try.prog).len s 228 a0).bind fun v17 =>
 iter (fun t s k => exec Try.prog false C n 208 none (cdp Try.f208 [1, 0, 1, 0, 0]) t s k) (scratch (cdp Try.f208 [1, 0, 1, 0, 0])) n (f208_l0_m a0 a1 a0 v17 ((Go.Value.int Go.IntKind.i64 0), undefV, (Go.Value.int Go.IntKind.i64 0))) s (kBlock 0 (kSeq Try.prog false C n 208 none (cdp Try.f208 [1, 1]) (kFun Try.prog Try.f208))) := by kernel_rfl
  rw [h1]
  simp only [f208_l0_e, f208_l0_k]
  show _ = f208 (dOps (H := H) Try.prog) C n a0 a1 s
  kernel_rfl
/-! (*tidepole/rec.reader).after$1 -/
noncomputable def f209 (O : Ops H) (C : OracleJ H) (n : Nat) (a0 : Value) (a1 : Value) (s : St H) : Option (List (Value × St H)) :=
 (O.load s 70 a1).bind fun v1 =>
 (O.bop .add 70 v1 a0).bind fun v2 =>
 (O.load s 70 a1).bind fun v3 =>
 (O.bop .geq 70 v2 v3).bind fun v4 =>
 some [(v4, s)]
theorem f209_r (C : OracleJ H) (n : Nat) (a0 : Value) (a1 : Value) (s : St H) : bodyD Try.prog false C n 209 Try.f209 [a0, a1] s = f209 (dOps (H := H) Try.prog) C n a0 a1 s := by kernel_rfl
end Go.Proofs.Ytmhmbmogodofeaa.S
