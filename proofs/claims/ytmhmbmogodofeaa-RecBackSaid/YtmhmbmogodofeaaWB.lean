/- 'tidepolelaw19.works' answers true, by running it. -/
import Derived.Test.YtmhmbmogodofeaaSB
set_option autoImplicit false
set_option maxRecDepth 100000
namespace Go.Proofs.Ytmhmbmogodofeaa.S
open Go.FS Go.RowKit
abbrev TH : HeapI := TrG fun _ => none
noncomputable def Aw : Ann TH := { i := noI, N := 1000000, row := fun _ => false, cut := fun _ => none }
noncomputable def e22 : Run TH := fun C args s => match args with
  | [a0] => f22 (qOps Try.prog) C 1000000 a0 s
  | l => bodyD Try.prog false C 1000000 22 Try.f22 l s
theorem e22_ok : RunOk Try.prog Aw 22 e22 := good_of (fn := Try.f22) rfl rfl (by kernel_rfl) fun C args s => by
  unfold e22
  split
  · rw [qOps_eq]; exact (f22_r C 1000000 _ s).symm
  · rfl
noncomputable def e24 : Run TH := fun C args s => match args with
  | [a0, a1] => f24 (qOps Try.prog) C 1000000 a0 a1 s
  | l => bodyD Try.prog false C 1000000 24 Try.f24 l s
theorem e24_ok : RunOk Try.prog Aw 24 e24 := good_of (fn := Try.f24) rfl rfl (by kernel_rfl) fun C args s => by
  unfold e24
  split
  · rw [qOps_eq]; exact (f24_r C 1000000 _ _ s).symm
  · rfl
noncomputable def e26 : Run TH := fun C args s => match args with
  | [a0, a1] => f26 (qOps Try.prog) C 1000000 a0 a1 s
  | l => bodyD Try.prog false C 1000000 26 Try.f26 l s
theorem e26_ok : RunOk Try.prog Aw 26 e26 := good_of (fn := Try.f26) rfl rfl (by kernel_rfl) fun C args s => by
  unfold e26
  split
  · rw [qOps_eq]; exact (f26_r C 1000000 _ _ s).symm
  · rfl
noncomputable def e42 : Run TH := fun C args s => match args with
  | [] => f42 (qOps Try.prog) C 1000000 s
  | l => bodyD Try.prog false C 1000000 42 Try.f42 l s
theorem e42_ok : RunOk Try.prog Aw 42 e42 := good_of (fn := Try.f42) rfl rfl (by kernel_rfl) fun C args s => by
  unfold e42
  split
  · rw [qOps_eq]; exact (f42_r C 1000000 s).symm
  · rfl
noncomputable def e43 : Run TH := fun C args s => match args with
  | [a0] => f43 (qOps Try.prog) C 1000000 a0 s
  | l => bodyD Try.prog false C 1000000 43 Try.f43 l s
theorem e43_ok : RunOk Try.prog Aw 43 e43 := good_of (fn := Try.f43) rfl rfl (by kernel_rfl) fun C args s => by
  unfold e43
  split
  · rw [qOps_eq]; exact (f43_r C 1000000 _ s).symm
  · rfl
noncomputable def e68 : Run TH := fun C args s => match args with
  | [a0] => f68 (qOps Try.prog) C 1000000 a0 s
  | l => bodyD Try.prog false C 1000000 68 Try.f68 l s
theorem e68_ok : RunOk Try.prog Aw 68 e68 := good_of (fn := Try.f68) rfl rfl (by kernel_rfl) fun C args s => by
  unfold e68
  split
  · rw [qOps_eq]; exact (f68_r C 1000000 _ s).symm
  · rfl
noncomputable def e72 : Run TH := fun C args s => match args with
  | [a0, a1] => f72 (qOps Try.prog) C 1000000 a0 a1 s
  | l => bodyD Try.prog false C 1000000 72 Try.f72 l s
theorem e72_ok : RunOk Try.prog Aw 72 e72 := good_of (fn := Try.f72) rfl rfl (by kernel_rfl) fun C args s => by
  unfold e72
  split
  · rw [qOps_eq]; exact (f72_r C 1000000 _ _ s).symm
  · rfl
noncomputable def e73 : Run TH := fun C args s => match args with
  | [a0, a1] => f73 (qOps Try.prog) C 1000000 a0 a1 s
  | l => bodyD Try.prog false C 1000000 73 Try.f73 l s
theorem e73_ok : RunOk Try.prog Aw 73 e73 := good_of (fn := Try.f73) rfl rfl (by kernel_rfl) fun C args s => by
  unfold e73
  split
  · rw [qOps_eq]; exact (f73_r C 1000000 _ _ s).symm
  · rfl
noncomputable def e95 : Run TH := fun C args s => match args with
  | [a0] => f95 (qOps Try.prog) C 1000000 a0 s
  | l => bodyD Try.prog false C 1000000 95 Try.f95 l s
theorem e95_ok : RunOk Try.prog Aw 95 e95 := good_of (fn := Try.f95) rfl rfl (by kernel_rfl) fun C args s => by
  unfold e95
  split
  · rw [qOps_eq]; exact (f95_r C 1000000 _ s).symm
  · rfl
noncomputable def e96 : Run TH := fun C args s => match args with
  | [a0, a1] => f96 (qOps Try.prog) C 1000000 a0 a1 s
  | l => bodyD Try.prog false C 1000000 96 Try.f96 l s
theorem e96_ok : RunOk Try.prog Aw 96 e96 := good_of (fn := Try.f96) rfl rfl (by kernel_rfl) fun C args s => by
  unfold e96
  split
  · rw [qOps_eq]; exact (f96_r C 1000000 _ _ s).symm
  · rfl
noncomputable def e97 : Run TH := fun C args s => match args with
  | [a0, a1] => f97 (qOps Try.prog) C 1000000 a0 a1 s
  | l => bodyD Try.prog false C 1000000 97 Try.f97 l s
theorem e97_ok : RunOk Try.prog Aw 97 e97 := good_of (fn := Try.f97) rfl rfl (by kernel_rfl) fun C args s => by
  unfold e97
  split
  · rw [qOps_eq]; exact (f97_r C 1000000 _ _ s).symm
  · rfl
noncomputable def e98 : Run TH := fun C args s => match args with
  | [a0, a1] => f98 (qOps Try.prog) C 1000000 a0 a1 s
  | l => bodyD Try.prog false C 1000000 98 Try.f98 l s
theorem e98_ok : RunOk Try.prog Aw 98 e98 := good_of (fn := Try.f98) rfl rfl (by kernel_rfl) fun C args s => by
  unfold e98
  split
  · rw [qOps_eq]; exact (f98_r C 1000000 _ _ s).symm
  · rfl
noncomputable def e99 : Run TH := fun C args s => match args with
  | [a0, a1] => f99 (qOps Try.prog) C 1000000 a0 a1 s
  | l => bodyD Try.prog false C 1000000 99 Try.f99 l s
theorem e99_ok : RunOk Try.prog Aw 99 e99 := good_of (fn := Try.f99) rfl rfl (by kernel_rfl) fun C args s => by
  unfold e99
  split
  · rw [qOps_eq]; exact (f99_r C 1000000 _ _ s).symm
  · rfl
noncomputable def e118 : Run TH := fun C args s => match args with
  | [a0, a1] => f118 (qOps Try.prog) C 1000000 a0 a1 s
  | l => bodyD Try.prog false C 1000000 118 Try.f118 l s
theorem e118_ok : RunOk Try.prog Aw 118 e118 := good_of (fn := Try.f118) rfl rfl (by kernel_rfl) fun C args s => by
  unfold e118
  split
  · rw [qOps_eq]; exact (f118_r C 1000000 _ _ s).symm
  · rfl
noncomputable def e123 : Run TH := fun C args s => match args with
  | [a0, a1, a2] => f123 (qOps Try.prog) C 1000000 a0 a1 a2 s
  | l => bodyD Try.prog false C 1000000 123 Try.f123 l s
theorem e123_ok : RunOk Try.prog Aw 123 e123 := good_of (fn := Try.f123) rfl rfl (by kernel_rfl) fun C args s => by
  unfold e123
  split
  · rw [qOps_eq]; exact (f123_r C 1000000 _ _ _ s).symm
  · rfl
noncomputable def e124 : Run TH := fun C args s => match args with
  | [a0] => f124 (qOps Try.prog) C 1000000 a0 s
  | l => bodyD Try.prog false C 1000000 124 Try.f124 l s
theorem e124_ok : RunOk Try.prog Aw 124 e124 := good_of (fn := Try.f124) rfl rfl (by kernel_rfl) fun C args s => by
  unfold e124
  split
  · rw [qOps_eq]; exact (f124_r C 1000000 _ s).symm
  · rfl
noncomputable def e138 : Run TH := fun C args s => match args with
  | [a0] => f138 (qOps Try.prog) C 1000000 a0 s
  | l => bodyD Try.prog false C 1000000 138 Try.f138 l s
theorem e138_ok : RunOk Try.prog Aw 138 e138 := good_of (fn := Try.f138) rfl rfl (by kernel_rfl) fun C args s => by
  unfold e138
  split
  · rw [qOps_eq]; exact (f138_r C 1000000 _ s).symm
  · rfl
noncomputable def e139 : Run TH := fun C args s => match args with
  | [a0, a1] => f139 (qOps Try.prog) C 1000000 a0 a1 s
  | l => bodyD Try.prog false C 1000000 139 Try.f139 l s
theorem e139_ok : RunOk Try.prog Aw 139 e139 := good_of (fn := Try.f139) rfl rfl (by kernel_rfl) fun C args s => by
  unfold e139
  split
  · rw [qOps_eq]; exact (f139_r C 1000000 _ _ s).symm
  · rfl
noncomputable def e140 : Run TH := fun C args s => match args with
  | [a0] => f140 (qOps Try.prog) C 1000000 a0 s
  | l => bodyD Try.prog false C 1000000 140 Try.f140 l s
theorem e140_ok : RunOk Try.prog Aw 140 e140 := good_of (fn := Try.f140) rfl rfl (by kernel_rfl) fun C args s => by
  unfold e140
  split
  · rw [qOps_eq]; exact (f140_r C 1000000 _ s).symm
  · rfl
noncomputable def e141 : Run TH := fun C args s => match args with
  | [a0, a1] => f141 (qOps Try.prog) C 1000000 a0 a1 s
  | l => bodyD Try.prog false C 1000000 141 Try.f141 l s
theorem e141_ok : RunOk Try.prog Aw 141 e141 := good_of (fn := Try.f141) rfl rfl (by kernel_rfl) fun C args s => by
  unfold e141
  split
  · rw [qOps_eq]; exact (f141_r C 1000000 _ _ s).symm
  · rfl
noncomputable def e142 : Run TH := fun C args s => match args with
  | [a0] => f142 (qOps Try.prog) C 1000000 a0 s
  | l => bodyD Try.prog false C 1000000 142 Try.f142 l s
theorem e142_ok : RunOk Try.prog Aw 142 e142 := good_of (fn := Try.f142) rfl rfl (by kernel_rfl) fun C args s => by
  unfold e142
  split
  · rw [qOps_eq]; exact (f142_r C 1000000 _ s).symm
  · rfl
noncomputable def e143 : Run TH := fun C args s => match args with
  | [a0] => f143 (qOps Try.prog) C 1000000 a0 s
  | l => bodyD Try.prog false C 1000000 143 Try.f143 l s
theorem e143_ok : RunOk Try.prog Aw 143 e143 := good_of (fn := Try.f143) rfl rfl (by kernel_rfl) fun C args s => by
  unfold e143
  split
  · rw [qOps_eq]; exact (f143_r C 1000000 _ s).symm
  · rfl
noncomputable def e144 : Run TH := fun C args s => match args with
  | [a0, a1, a2, a3] => f144 (qOps Try.prog) C 1000000 a0 a1 a2 a3 s
  | l => bodyD Try.prog false C 1000000 144 Try.f144 l s
theorem e144_ok : RunOk Try.prog Aw 144 e144 := good_of (fn := Try.f144) rfl rfl (by kernel_rfl) fun C args s => by
  unfold e144
  split
  · rw [qOps_eq]; exact (f144_r C 1000000 _ _ _ _ s).symm
  · rfl
noncomputable def e145 : Run TH := fun C args s => match args with
  | [a0, a1] => f145 (qOps Try.prog) C 1000000 a0 a1 s
  | l => bodyD Try.prog false C 1000000 145 Try.f145 l s
theorem e145_ok : RunOk Try.prog Aw 145 e145 := good_of (fn := Try.f145) rfl rfl (by kernel_rfl) fun C args s => by
  unfold e145
  split
  · rw [qOps_eq]; exact (f145_r C 1000000 _ _ s).symm
  · rfl
noncomputable def e146 : Run TH := fun C args s => match args with
  | [a0, a1] => f146 (qOps Try.prog) C 1000000 a0 a1 s
  | l => bodyD Try.prog false C 1000000 146 Try.f146 l s
theorem e146_ok : RunOk Try.prog Aw 146 e146 := good_of (fn := Try.f146) rfl rfl (by kernel_rfl) fun C args s => by
  unfold e146
  split
  · rw [qOps_eq]; exact (f146_r C 1000000 _ _ s).symm
  · rfl
noncomputable def e147 : Run TH := fun C args s => match args with
  | [a0, a1, a2, a3] => f147 (qOps Try.prog) C 1000000 a0 a1 a2 a3 s
  | l => bodyD Try.prog false C 1000000 147 Try.f147 l s
theorem e147_ok : RunOk Try.prog Aw 147 e147 := good_of (fn := Try.f147) rfl rfl (by kernel_rfl) fun C args s => by
  unfold e147
  split
  · rw [qOps_eq]; exact (f147_r C 1000000 _ _ _ _ s).symm
  · rfl
noncomputable def e148 : Run TH := fun C args s => match args with
  | [a0] => f148 (qOps Try.prog) C 1000000 a0 s
  | l => bodyD Try.prog false C 1000000 148 Try.f148 l s
theorem e148_ok : RunOk Try.prog Aw 148 e148 := good_of (fn := Try.f148) rfl rfl (by kernel_rfl) fun C args s => by
  unfold e148
  split
  · rw [qOps_eq]; exact (f148_r C 1000000 _ s).symm
  · rfl
noncomputable def e174 : Run TH := fun C args s => match args with
  | [a0] => f174 (qOps Try.prog) C 1000000 a0 s
  | l => bodyD Try.prog false C 1000000 174 Try.f174 l s
theorem e174_ok : RunOk Try.prog Aw 174 e174 := good_of (fn := Try.f174) rfl rfl (by kernel_rfl) fun C args s => by
  unfold e174
  split
  · rw [qOps_eq]; exact (f174_r C 1000000 _ s).symm
  · rfl
noncomputable def e175 : Run TH := fun C args s => match args with
  | [a0, a1] => f175 (qOps Try.prog) C 1000000 a0 a1 s
  | l => bodyD Try.prog false C 1000000 175 Try.f175 l s
theorem e175_ok : RunOk Try.prog Aw 175 e175 := good_of (fn := Try.f175) rfl rfl (by kernel_rfl) fun C args s => by
  unfold e175
  split
  · rw [qOps_eq]; exact (f175_r C 1000000 _ _ s).symm
  · rfl
noncomputable def e176 : Run TH := fun C args s => match args with
  | [a0, a1] => f176 (qOps Try.prog) C 1000000 a0 a1 s
  | l => bodyD Try.prog false C 1000000 176 Try.f176 l s
theorem e176_ok : RunOk Try.prog Aw 176 e176 := good_of (fn := Try.f176) rfl rfl (by kernel_rfl) fun C args s => by
  unfold e176
  split
  · rw [qOps_eq]; exact (f176_r C 1000000 _ _ s).symm
  · rfl
noncomputable def e177 : Run TH := fun C args s => match args with
  | [a0] => f177 (qOps Try.prog) C 1000000 a0 s
  | l => bodyD Try.prog false C 1000000 177 Try.f177 l s
theorem e177_ok : RunOk Try.prog Aw 177 e177 := good_of (fn := Try.f177) rfl rfl (by kernel_rfl) fun C args s => by
  unfold e177
  split
  · rw [qOps_eq]; exact (f177_r C 1000000 _ s).symm
  · rfl
noncomputable def e178 : Run TH := fun C args s => match args with
  | [a0, a1, a2] => f178 (qOps Try.prog) C 1000000 a0 a1 a2 s
  | l => bodyD Try.prog false C 1000000 178 Try.f178 l s
theorem e178_ok : RunOk Try.prog Aw 178 e178 := good_of (fn := Try.f178) rfl rfl (by kernel_rfl) fun C args s => by
  unfold e178
  split
  · rw [qOps_eq]; exact (f178_r C 1000000 _ _ _ s).symm
  · rfl
noncomputable def e179 : Run TH := fun C args s => match args with
  | [a0] => f179 (qOps Try.prog) C 1000000 a0 s
  | l => bodyD Try.prog false C 1000000 179 Try.f179 l s
theorem e179_ok : RunOk Try.prog Aw 179 e179 := good_of (fn := Try.f179) rfl rfl (by kernel_rfl) fun C args s => by
  unfold e179
  split
  · rw [qOps_eq]; exact (f179_r C 1000000 _ s).symm
  · rfl
noncomputable def e207 : Run TH := fun C args s => match args with
  | [a0, a1] => f207 (qOps Try.prog) C 1000000 a0 a1 s
  | l => bodyD Try.prog false C 1000000 207 Try.f207 l s
theorem e207_ok : RunOk Try.prog Aw 207 e207 := good_of (fn := Try.f207) rfl rfl (by kernel_rfl) fun C args s => by
  unfold e207
  split
  · rw [qOps_eq]; exact (f207_r C 1000000 _ _ s).symm
  · rfl
noncomputable def e208 : Run TH := fun C args s => match args with
  | [a0, a1] => f208 (qOps Try.prog) C 1000000 a0 a1 s
  | l => bodyD Try.prog false C 1000000 208 Try.f208 l s
theorem e208_ok : RunOk Try.prog Aw 208 e208 := good_of (fn := Try.f208) rfl rfl (by kernel_rfl) fun C args s => by
  unfold e208
  split
  · rw [qOps_eq]; exact (f208_r C 1000000 _ _ s).symm
  · rfl
noncomputable def tb : Tb TH := tbNode 139 (tbNode 95 (tbNode 43 (tbNode 26 (tbNode 24 (tbLeaf 22 e22) (tbLeaf 24 e24)) (tbNode 42 (tbLeaf 26 e26) (tbLeaf 42 e42))) (tbNode 72 (tbNode 68 (tbLeaf 43 e43) (tbLeaf 68 e68)) (tbNode 73 (tbLeaf 72 e72) (tbLeaf 73 e73)))) (tbNode 99 (tbNode 97 (tbNode 96 (tbLeaf 95 e95) (tbLeaf 96 e96)) (tbNode 98 (tbLeaf 97 e97) (tbLeaf 98 e98))) (tbNode 123 (tbNode 118 (tbLeaf 99 e99) (tbLeaf 118 e118)) (tbNode 124 (tbLeaf 123 e123) (tbNode 138 (tbLeaf 124 e124) (tbLeaf 138 e138)))))) (tbNode 148 (tbNode 143 (tbNode 141 (tbNode 140 (tbLeaf 139 e139) (tbLeaf 140 e140)) (tbNode 142 (tbLeaf 141 e141) (tbLeaf 142 e142))) (tbNode 145 (tbNode 144 (tbLeaf 143 e143) (tbLeaf 144 e144)) (tbNode 146 (tbLeaf 145 e145) (tbNode 147 (tbLeaf 146 e146) (tbLeaf 147 e147))))) (tbNode 177 (tbNode 175 (tbNode 174 (tbLeaf 148 e148) (tbLeaf 174 e174)) (tbNode 176 (tbLeaf 175 e175) (tbLeaf 176 e176))) (tbNode 179 (tbNode 178 (tbLeaf 177 e177) (tbLeaf 178 e178)) (tbNode 207 (tbLeaf 179 e179) (tbNode 208 (tbLeaf 207 e207) (tbLeaf 208 e208))))))
theorem tb_ok : TbOk Try.prog Aw tb := node_ok (node_ok (node_ok (node_ok (node_ok (leaf_ok e22_ok) (leaf_ok e24_ok)) (node_ok (leaf_ok e26_ok) (leaf_ok e42_ok))) (node_ok (node_ok (leaf_ok e43_ok) (leaf_ok e68_ok)) (node_ok (leaf_ok e72_ok) (leaf_ok e73_ok)))) (node_ok (node_ok (node_ok (leaf_ok e95_ok) (leaf_ok e96_ok)) (node_ok (leaf_ok e97_ok) (leaf_ok e98_ok))) (node_ok (node_ok (leaf_ok e99_ok) (leaf_ok e118_ok)) (node_ok (leaf_ok e123_ok) (node_ok (leaf_ok e124_ok) (leaf_ok e138_ok)))))) (node_ok (node_ok (node_ok (node_ok (leaf_ok e139_ok) (leaf_ok e140_ok)) (node_ok (leaf_ok e141_ok) (leaf_ok e142_ok))) (node_ok (node_ok (leaf_ok e143_ok) (leaf_ok e144_ok)) (node_ok (leaf_ok e145_ok) (node_ok (leaf_ok e146_ok) (leaf_ok e147_ok))))) (node_ok (node_ok (node_ok (leaf_ok e148_ok) (leaf_ok e174_ok)) (node_ok (leaf_ok e175_ok) (leaf_ok e176_ok))) (node_ok (node_ok (leaf_ok e177_ok) (leaf_ok e178_ok)) (node_ok (leaf_ok e179_ok) (node_ok (leaf_ok e207_ok) (leaf_ok e208_ok))))))
set_option maxRecDepth 1000000 in
theorem worksQ : allTrue (callG Try.prog Aw tb 60 (.fn 42) [] emptyS) = true := by kernel_rfl
theorem works : allTrue (callD Try.prog Aw 60 (.fn 42) [] emptyS) = true := by rw [← callG_eq tb_ok]; exact worksQ
end Go.Proofs.Ytmhmbmogodofeaa.S
