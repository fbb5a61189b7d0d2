/- 'tidepolelaw15.works' answers true, by running it. -/
import Derived.Test.YtmhmbmogodofeaaSY
import Derived.Test.YtmhmbmogodofeaaSYa
set_option autoImplicit false
set_option maxRecDepth 100000
namespace Go.Proofs.Ytmhmbmogodofeaa.S
open Go.FS Go.RowKit
abbrev TH : HeapI := TrG fun _ => none
noncomputable def Aw : Ann TH := { i := T.iY, N := 1000000, row := fun f => Nat.beq f 81, cut := fun _ => none }
noncomputable def e26 : Run TH := fun C args s => match args with
  | [a0, a1] => f26 (qOps Try.prog) C 1000000 a0 a1 s
  | l => bodyD Try.prog false C 1000000 26 Try.f26 l s
theorem e26_ok : RunOk Try.prog Aw 26 e26 := good_of (fn := Try.f26) rfl rfl (by kernel_rfl) fun C args s => by
  unfold e26
  split
  · rw [qOps_eq]; exact (f26_r C 1000000 _ _ s).symm
  · rfl
noncomputable def e30 : Run TH := fun C args s => match args with
  | [] => f30 (qOps Try.prog) C 1000000 s
  | l => bodyD Try.prog false C 1000000 30 Try.f30 l s
theorem e30_ok : RunOk Try.prog Aw 30 e30 := good_of (fn := Try.f30) rfl rfl (by kernel_rfl) fun C args s => by
  unfold e30
  split
  · rw [qOps_eq]; exact (f30_r C 1000000 s).symm
  · rfl
noncomputable def e32 : Run TH := fun C args s => match args with
  | [a0] => f32 (qOps Try.prog) C 1000000 a0 s
  | l => bodyD Try.prog false C 1000000 32 Try.f32 l s
theorem e32_ok : RunOk Try.prog Aw 32 e32 := good_of (fn := Try.f32) rfl rfl (by kernel_rfl) fun C args s => by
  unfold e32
  split
  · rw [qOps_eq]; exact (f32_r C 1000000 _ s).symm
  · rfl
noncomputable def e33 : Run TH := fun C args s => match args with
  | [a0] => f33 (qOps Try.prog) C 1000000 a0 s
  | l => bodyD Try.prog false C 1000000 33 Try.f33 l s
theorem e33_ok : RunOk Try.prog Aw 33 e33 := good_of (fn := Try.f33) rfl rfl (by kernel_rfl) fun C args s => by
  unfold e33
  split
  · rw [qOps_eq]; exact (f33_r C 1000000 _ s).symm
  · rfl
noncomputable def e34 : Run TH := fun C args s => match args with
  | [a0, a1] => f34 (qOps Try.prog) C 1000000 a0 a1 s
  | l => bodyD Try.prog false C 1000000 34 Try.f34 l s
theorem e34_ok : RunOk Try.prog Aw 34 e34 := good_of (fn := Try.f34) rfl rfl (by kernel_rfl) fun C args s => by
  unfold e34
  split
  · rw [qOps_eq]; exact (f34_r C 1000000 _ _ s).symm
  · rfl
noncomputable def e35 : Run TH := fun C args s => match args with
  | [a0, a1] => f35 (qOps Try.prog) C 1000000 a0 a1 s
  | l => bodyD Try.prog false C 1000000 35 Try.f35 l s
theorem e35_ok : RunOk Try.prog Aw 35 e35 := good_of (fn := Try.f35) rfl rfl (by kernel_rfl) fun C args s => by
  unfold e35
  split
  · rw [qOps_eq]; exact (f35_r C 1000000 _ _ s).symm
  · rfl
noncomputable def e36 : Run TH := fun C args s => match args with
  | [a0] => f36 (qOps Try.prog) C 1000000 a0 s
  | l => bodyD Try.prog false C 1000000 36 Try.f36 l s
theorem e36_ok : RunOk Try.prog Aw 36 e36 := good_of (fn := Try.f36) rfl rfl (by kernel_rfl) fun C args s => by
  unfold e36
  split
  · rw [qOps_eq]; exact (f36_r C 1000000 _ s).symm
  · rfl
noncomputable def e72 : Run TH := fun C args s => match args with
  | [a0, a1] => f72 (qOps Try.prog) C 1000000 a0 a1 s
  | l => bodyD Try.prog false C 1000000 72 Try.f72 l s
theorem e72_ok : RunOk Try.prog Aw 72 e72 := good_of (fn := Try.f72) rfl rfl (by kernel_rfl) fun C args s => by
  unfold e72
  split
  · rw [qOps_eq]; exact (f72_r C 1000000 _ _ s).symm
  · rfl
noncomputable def e73 : Run TH := fun C args s => match args with
  | [a0, a1] => f73 (qOps Try.prog) C 1000000 a0 a1 s
  | l => bodyD Try.prog false C 1000000 73 Try.f73 l s
theorem e73_ok : RunOk Try.prog Aw 73 e73 := good_of (fn := Try.f73) rfl rfl (by kernel_rfl) fun C args s => by
  unfold e73
  split
  · rw [qOps_eq]; exact (f73_r C 1000000 _ _ s).symm
  · rfl
noncomputable def e81 : Run TH := fun C args s => match args with
  | [a0] => f81 (qOps Try.prog) C 1000000 a0 s
  | l => bodyD Try.prog true C 1000000 81 Try.f81 l s
theorem e81_ok : RunOk Try.prog Aw 81 e81 := good_of (fn := Try.f81) rfl rfl (by kernel_rfl) fun C args s => by
  unfold e81
  split
  · rw [qOps_eq]; exact (f81_r C 1000000 _ s).symm
  · rfl
noncomputable def e82 : Run TH := fun _ args s => (T.iSort args s).map fun p => [p]
theorem e82_ok : RunOk Try.prog Aw 82 e82 := good_i rfl
noncomputable def e83 : Run TH := fun C args s => match args with
  | [a0] => f83 (qOps Try.prog) C 1000000 a0 s
  | l => bodyD Try.prog false C 1000000 83 Try.f83 l s
theorem e83_ok : RunOk Try.prog Aw 83 e83 := good_of (fn := Try.f83) rfl rfl (by kernel_rfl) fun C args s => by
  unfold e83
  split
  · rw [qOps_eq]; exact (f83_r C 1000000 _ s).symm
  · rfl
noncomputable def e84 : Run TH := fun C args s => match args with
  | [a0, a1] => f84 (qOps Try.prog) C 1000000 a0 a1 s
  | l => bodyD Try.prog false C 1000000 84 Try.f84 l s
theorem e84_ok : RunOk Try.prog Aw 84 e84 := good_of (fn := Try.f84) rfl rfl (by kernel_rfl) fun C args s => by
  unfold e84
  split
  · rw [qOps_eq]; exact (f84_r C 1000000 _ _ s).symm
  · rfl
noncomputable def e85 : Run TH := fun C args s => match args with
  | [a0] => f85 (qOps Try.prog) C 1000000 a0 s
  | l => bodyD Try.prog false C 1000000 85 Try.f85 l s
theorem e85_ok : RunOk Try.prog Aw 85 e85 := good_of (fn := Try.f85) rfl rfl (by kernel_rfl) fun C args s => by
  unfold e85
  split
  · rw [qOps_eq]; exact (f85_r C 1000000 _ s).symm
  · rfl
noncomputable def e86 : Run TH := fun C args s => match args with
  | [a0, a1] => f86 (qOps Try.prog) C 1000000 a0 a1 s
  | l => bodyD Try.prog false C 1000000 86 Try.f86 l s
theorem e86_ok : RunOk Try.prog Aw 86 e86 := good_of (fn := Try.f86) rfl rfl (by kernel_rfl) fun C args s => by
  unfold e86
  split
  · rw [qOps_eq]; exact (f86_r C 1000000 _ _ s).symm
  · rfl
noncomputable def e87 : Run TH := fun C args s => match args with
  | [a0] => f87 (qOps Try.prog) C 1000000 a0 s
  | l => bodyD Try.prog false C 1000000 87 Try.f87 l s
theorem e87_ok : RunOk Try.prog Aw 87 e87 := good_of (fn := Try.f87) rfl rfl (by kernel_rfl) fun C args s => by
  unfold e87
  split
  · rw [qOps_eq]; exact (f87_r C 1000000 _ s).symm
  · rfl
noncomputable def e88 : Run TH := fun C args s => match args with
  | [a0, a1] => f88 (qOps Try.prog) C 1000000 a0 a1 s
  | l => bodyD Try.prog false C 1000000 88 Try.f88 l s
theorem e88_ok : RunOk Try.prog Aw 88 e88 := good_of (fn := Try.f88) rfl rfl (by kernel_rfl) fun C args s => by
  unfold e88
  split
  · rw [qOps_eq]; exact (f88_r C 1000000 _ _ s).symm
  · rfl
noncomputable def e123 : Run TH := fun C args s => match args with
  | [a0, a1, a2] => f123 (qOps Try.prog) C 1000000 a0 a1 a2 s
  | l => bodyD Try.prog false C 1000000 123 Try.f123 l s
theorem e123_ok : RunOk Try.prog Aw 123 e123 := good_of (fn := Try.f123) rfl rfl (by kernel_rfl) fun C args s => by
  unfold e123
  split
  · rw [qOps_eq]; exact (f123_r C 1000000 _ _ _ s).symm
  · rfl
noncomputable def e124 : Run TH := fun C args s => match args with
  | [a0] => f124 (qOps Try.prog) C 1000000 a0 s
  | l => bodyD Try.prog false C 1000000 124 Try.f124 l s
theorem e124_ok : RunOk Try.prog Aw 124 e124 := good_of (fn := Try.f124) rfl rfl (by kernel_rfl) fun C args s => by
  unfold e124
  split
  · rw [qOps_eq]; exact (f124_r C 1000000 _ s).symm
  · rfl
noncomputable def e133 : Run TH := fun C args s => match args with
  | [a0, a1] => f133 (qOps Try.prog) C 1000000 a0 a1 s
  | l => bodyD Try.prog false C 1000000 133 Try.f133 l s
theorem e133_ok : RunOk Try.prog Aw 133 e133 := good_of (fn := Try.f133) rfl rfl (by kernel_rfl) fun C args s => by
  unfold e133
  split
  · rw [qOps_eq]; exact (f133_r C 1000000 _ _ s).symm
  · rfl
noncomputable def e134 : Run TH := fun C args s => match args with
  | [a0, a1] => f134 (qOps Try.prog) C 1000000 a0 a1 s
  | l => bodyD Try.prog false C 1000000 134 Try.f134 l s
theorem e134_ok : RunOk Try.prog Aw 134 e134 := good_of (fn := Try.f134) rfl rfl (by kernel_rfl) fun C args s => by
  unfold e134
  split
  · rw [qOps_eq]; exact (f134_r C 1000000 _ _ s).symm
  · rfl
noncomputable def e136 : Run TH := fun C args s => match args with
  | [a0, a1] => f136 (qOps Try.prog) C 1000000 a0 a1 s
  | l => bodyD Try.prog false C 1000000 136 Try.f136 l s
theorem e136_ok : RunOk Try.prog Aw 136 e136 := good_of (fn := Try.f136) rfl rfl (by kernel_rfl) fun C args s => by
  unfold e136
  split
  · rw [qOps_eq]; exact (f136_r C 1000000 _ _ s).symm
  · rfl
noncomputable def e162 : Run TH := fun C args s => match args with
  | [a0] => f162 (qOps Try.prog) C 1000000 a0 s
  | l => bodyD Try.prog false C 1000000 162 Try.f162 l s
theorem e162_ok : RunOk Try.prog Aw 162 e162 := good_of (fn := Try.f162) rfl rfl (by kernel_rfl) fun C args s => by
  unfold e162
  split
  · rw [qOps_eq]; exact (f162_r C 1000000 _ s).symm
  · rfl
noncomputable def tb : Tb TH := tbNode 83 (tbNode 35 (tbNode 32 (tbNode 30 (tbLeaf 26 e26) (tbLeaf 30 e30)) (tbNode 33 (tbLeaf 32 e32) (tbNode 34 (tbLeaf 33 e33) (tbLeaf 34 e34)))) (tbNode 73 (tbNode 36 (tbLeaf 35 e35) (tbNode 72 (tbLeaf 36 e36) (tbLeaf 72 e72))) (tbNode 81 (tbLeaf 73 e73) (tbNode 82 (tbLeaf 81 e81) (tbLeaf 82 e82))))) (tbNode 123 (tbNode 86 (tbNode 84 (tbLeaf 83 e83) (tbNode 85 (tbLeaf 84 e84) (tbLeaf 85 e85))) (tbNode 87 (tbLeaf 86 e86) (tbNode 88 (tbLeaf 87 e87) (tbLeaf 88 e88)))) (tbNode 134 (tbNode 124 (tbLeaf 123 e123) (tbNode 133 (tbLeaf 124 e124) (tbLeaf 133 e133))) (tbNode 136 (tbLeaf 134 e134) (tbNode 162 (tbLeaf 136 e136) (tbLeaf 162 e162)))))
theorem tb_ok : TbOk Try.prog Aw tb := node_ok (node_ok (node_ok (node_ok (leaf_ok e26_ok) (leaf_ok e30_ok)) (node_ok (leaf_ok e32_ok) (node_ok (leaf_ok e33_ok) (leaf_ok e34_ok)))) (node_ok (node_ok (leaf_ok e35_ok) (node_ok (leaf_ok e36_ok) (leaf_ok e72_ok))) (node_ok (leaf_ok e73_ok) (node_ok (leaf_ok e81_ok) (leaf_ok e82_ok))))) (node_ok (node_ok (node_ok (leaf_ok e83_ok) (node_ok (leaf_ok e84_ok) (leaf_ok e85_ok))) (node_ok (leaf_ok e86_ok) (node_ok (leaf_ok e87_ok) (leaf_ok e88_ok)))) (node_ok (node_ok (leaf_ok e123_ok) (node_ok (leaf_ok e124_ok) (leaf_ok e133_ok))) (node_ok (leaf_ok e134_ok) (node_ok (leaf_ok e136_ok) (leaf_ok e162_ok)))))
set_option maxRecDepth 1000000 in
theorem worksQ : allTrue (callG Try.prog Aw tb 60 (.fn 30) [] emptyS) = true := by kernel_rfl
theorem works : allTrue (callD Try.prog Aw 60 (.fn 30) [] emptyS) = true := by rw [← callG_eq tb_ok]; exact worksQ
end Go.Proofs.Ytmhmbmogodofeaa.S
