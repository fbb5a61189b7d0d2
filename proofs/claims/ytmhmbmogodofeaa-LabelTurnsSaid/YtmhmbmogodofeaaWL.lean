/- 'tidepolelaw04.works' answers true, by running it. -/
import Derived.Test.YtmhmbmogodofeaaSL
import Derived.Test.YtmhmbmogodofeaaTXc
set_option autoImplicit false
set_option maxRecDepth 100000
namespace Go.Proofs.Ytmhmbmogodofeaa.S
open Go.FS Go.RowKit
abbrev TH : HeapI := TrG fun _ => none
noncomputable def Aw : Ann TH := { i := T.iL, N := 1000000, row := fun f => Nat.beq f 64, cut := fun _ => none }
noncomputable def e17 : Run TH := fun C args s => match args with
  | [] => f17 (qOps Try.prog) C 1000000 s
  | l => bodyD Try.prog false C 1000000 17 Try.f17 l s
theorem e17_ok : RunOk Try.prog Aw 17 e17 := good_of (fn := Try.f17) rfl rfl (by kernel_rfl) fun C args s => by
  unfold e17
  split
  · rw [qOps_eq]; exact (f17_r C 1000000 s).symm
  · rfl
noncomputable def e19 : Run TH := fun C args s => match args with
  | [a0] => f19 (qOps Try.prog) C 1000000 a0 s
  | l => bodyD Try.prog false C 1000000 19 Try.f19 l s
theorem e19_ok : RunOk Try.prog Aw 19 e19 := good_of (fn := Try.f19) rfl rfl (by kernel_rfl) fun C args s => by
  unfold e19
  split
  · rw [qOps_eq]; exact (f19_r C 1000000 _ s).symm
  · rfl
noncomputable def e22 : Run TH := fun C args s => match args with
  | [a0] => f22 (qOps Try.prog) C 1000000 a0 s
  | l => bodyD Try.prog false C 1000000 22 Try.f22 l s
theorem e22_ok : RunOk Try.prog Aw 22 e22 := good_of (fn := Try.f22) rfl rfl (by kernel_rfl) fun C args s => by
  unfold e22
  split
  · rw [qOps_eq]; exact (f22_r C 1000000 _ s).symm
  · rfl
noncomputable def e29 : Run TH := fun C args s => match args with
  | [a0, a1] => f29 (qOps Try.prog) C 1000000 a0 a1 s
  | l => bodyD Try.prog false C 1000000 29 Try.f29 l s
theorem e29_ok : RunOk Try.prog Aw 29 e29 := good_of (fn := Try.f29) rfl rfl (by kernel_rfl) fun C args s => by
  unfold e29
  split
  · rw [qOps_eq]; exact (f29_r C 1000000 _ _ s).symm
  · rfl
noncomputable def e63 : Run TH := fun _ args s => (T.iText args s).map fun p => [p]
theorem e63_ok : RunOk Try.prog Aw 63 e63 := good_i rfl
noncomputable def e64 : Run TH := fun C args s => match args with
  | [a0] => f64 (qOps Try.prog) C 1000000 a0 s
  | l => bodyD Try.prog true C 1000000 64 Try.f64 l s
theorem e64_ok : RunOk Try.prog Aw 64 e64 := good_of (fn := Try.f64) rfl rfl (by kernel_rfl) fun C args s => by
  unfold e64
  split
  · rw [qOps_eq]; exact (f64_r C 1000000 _ s).symm
  · rfl
noncomputable def e65 : Run TH := fun C args s => match args with
  | [a0, a1] => f65 (qOps Try.prog) C 1000000 a0 a1 s
  | l => bodyD Try.prog false C 1000000 65 Try.f65 l s
theorem e65_ok : RunOk Try.prog Aw 65 e65 := good_of (fn := Try.f65) rfl rfl (by kernel_rfl) fun C args s => by
  unfold e65
  split
  · rw [qOps_eq]; exact (f65_r C 1000000 _ _ s).symm
  · rfl
noncomputable def e66 : Run TH := fun C args s => match args with
  | [a0, a1] => f66 (qOps Try.prog) C 1000000 a0 a1 s
  | l => bodyD Try.prog false C 1000000 66 Try.f66 l s
theorem e66_ok : RunOk Try.prog Aw 66 e66 := good_of (fn := Try.f66) rfl rfl (by kernel_rfl) fun C args s => by
  unfold e66
  split
  · rw [qOps_eq]; exact (f66_r C 1000000 _ _ s).symm
  · rfl
noncomputable def e67 : Run TH := fun _ args s => (T.iCmp args s).map fun p => [p]
theorem e67_ok : RunOk Try.prog Aw 67 e67 := good_i rfl
noncomputable def e68 : Run TH := fun C args s => match args with
  | [a0] => f68 (qOps Try.prog) C 1000000 a0 s
  | l => bodyD Try.prog false C 1000000 68 Try.f68 l s
theorem e68_ok : RunOk Try.prog Aw 68 e68 := good_of (fn := Try.f68) rfl rfl (by kernel_rfl) fun C args s => by
  unfold e68
  split
  · rw [qOps_eq]; exact (f68_r C 1000000 _ s).symm
  · rfl
noncomputable def e80 : Run TH := fun C args s => match args with
  | [a0, a1] => f80 (qOps Try.prog) C 1000000 a0 a1 s
  | l => bodyD Try.prog false C 1000000 80 Try.f80 l s
theorem e80_ok : RunOk Try.prog Aw 80 e80 := good_of (fn := Try.f80) rfl rfl (by kernel_rfl) fun C args s => by
  unfold e80
  split
  · rw [qOps_eq]; exact (f80_r C 1000000 _ _ s).symm
  · rfl
noncomputable def e116 : Run TH := fun C args s => match args with
  | [a0, a1, a2] => f116 (qOps Try.prog) C 1000000 a0 a1 a2 s
  | l => bodyD Try.prog false C 1000000 116 Try.f116 l s
theorem e116_ok : RunOk Try.prog Aw 116 e116 := good_of (fn := Try.f116) rfl rfl (by kernel_rfl) fun C args s => by
  unfold e116
  split
  · rw [qOps_eq]; exact (f116_r C 1000000 _ _ _ s).symm
  · rfl
noncomputable def e118 : Run TH := fun C args s => match args with
  | [a0, a1] => f118 (qOps Try.prog) C 1000000 a0 a1 s
  | l => bodyD Try.prog false C 1000000 118 Try.f118 l s
theorem e118_ok : RunOk Try.prog Aw 118 e118 := good_of (fn := Try.f118) rfl rfl (by kernel_rfl) fun C args s => by
  unfold e118
  split
  · rw [qOps_eq]; exact (f118_r C 1000000 _ _ s).symm
  · rfl
noncomputable def e126 : Run TH := fun C args s => match args with
  | [a0, a1] => f126 (qOps Try.prog) C 1000000 a0 a1 s
  | l => bodyD Try.prog false C 1000000 126 Try.f126 l s
theorem e126_ok : RunOk Try.prog Aw 126 e126 := good_of (fn := Try.f126) rfl rfl (by kernel_rfl) fun C args s => by
  unfold e126
  split
  · rw [qOps_eq]; exact (f126_r C 1000000 _ _ s).symm
  · rfl
noncomputable def e130 : Run TH := fun C args s => match args with
  | [a0, a1] => f130 (qOps Try.prog) C 1000000 a0 a1 s
  | l => bodyD Try.prog false C 1000000 130 Try.f130 l s
theorem e130_ok : RunOk Try.prog Aw 130 e130 := good_of (fn := Try.f130) rfl rfl (by kernel_rfl) fun C args s => by
  unfold e130
  split
  · rw [qOps_eq]; exact (f130_r C 1000000 _ _ s).symm
  · rfl
noncomputable def e159 : Run TH := fun C args s => match args with
  | [a0, a1, a2, a3] => f159 (qOps Try.prog) C 1000000 a0 a1 a2 a3 s
  | l => bodyD Try.prog false C 1000000 159 Try.f159 l s
theorem e159_ok : RunOk Try.prog Aw 159 e159 := good_of (fn := Try.f159) rfl rfl (by kernel_rfl) fun C args s => by
  unfold e159
  split
  · rw [qOps_eq]; exact (f159_r C 1000000 _ _ _ _ s).symm
  · rfl
noncomputable def tb : Tb TH := tbNode 67 (tbNode 63 (tbNode 22 (tbNode 19 (tbLeaf 17 e17) (tbLeaf 19 e19)) (tbNode 29 (tbLeaf 22 e22) (tbLeaf 29 e29))) (tbNode 65 (tbNode 64 (tbLeaf 63 e63) (tbLeaf 64 e64)) (tbNode 66 (tbLeaf 65 e65) (tbLeaf 66 e66)))) (tbNode 118 (tbNode 80 (tbNode 68 (tbLeaf 67 e67) (tbLeaf 68 e68)) (tbNode 116 (tbLeaf 80 e80) (tbLeaf 116 e116))) (tbNode 130 (tbNode 126 (tbLeaf 118 e118) (tbLeaf 126 e126)) (tbNode 159 (tbLeaf 130 e130) (tbLeaf 159 e159))))
theorem tb_ok : TbOk Try.prog Aw tb := node_ok (node_ok (node_ok (node_ok (leaf_ok e17_ok) (leaf_ok e19_ok)) (node_ok (leaf_ok e22_ok) (leaf_ok e29_ok))) (node_ok (node_ok (leaf_ok e63_ok) (leaf_ok e64_ok)) (node_ok (leaf_ok e65_ok) (leaf_ok e66_ok)))) (node_ok (node_ok (node_ok (leaf_ok e67_ok) (leaf_ok e68_ok)) (node_ok (leaf_ok e80_ok) (leaf_ok e116_ok))) (node_ok (node_ok (leaf_ok e118_ok) (leaf_ok e126_ok)) (node_ok (leaf_ok e130_ok) (leaf_ok e159_ok))))
set_option maxRecDepth 1000000 in
theorem worksQ : allTrue (callG Try.prog Aw tb 60 (.fn 17) [] emptyS) = true := by kernel_rfl
theorem works : allTrue (callD Try.prog Aw 60 (.fn 17) [] emptyS) = true := by rw [← callG_eq tb_ok]; exact worksQ
end Go.Proofs.Ytmhmbmogodofeaa.S
