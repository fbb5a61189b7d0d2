import Derived.Test.YtmhmbmogodofeaaST
set_option maxRecDepth 100000
namespace Go.Proofs.Ytmhmbmogodofeaa.S
open Go.FS Go.RowKit
open Go.Proofs.Try (prog)
abbrev TH:HeapI:=TrG fun _=>none
noncomputable def Aw:Ann TH:={ i:=noI,N:=1000000,row:=fun _=>false,cut:=fun _=>none }
noncomputable def e45:Run TH:=fun C args s=>match args with
 | []=>f45 (qOps prog) C 1000000 s
 | l=>bodyD prog false C 1000000 45 Try.f45 l s
theorem e45_ok:RunOk prog Aw 45 e45:=good_of (fn:=Try.f45) rfl rfl (by kernel_rfl) fun C args s=>by
 unfold e45
 split
 · rw [qOps_eq]; exact (f45_r C 1000000 s).symm
 · rfl
noncomputable def e46:Run TH:=fun C args s=>match args with
 | []=>f46 (qOps prog) C 1000000 s
 | l=>bodyD prog false C 1000000 46 Try.f46 l s
theorem e46_ok:RunOk prog Aw 46 e46:=good_of (fn:=Try.f46) rfl rfl (by kernel_rfl) fun C args s=>by
 unfold e46
 split
 · rw [qOps_eq]; exact (f46_r C 1000000 s).symm
 · rfl
noncomputable def e47:Run TH:=fun C args s=>match args with
 | [a0,a1,a2]=>f47 (qOps prog) C 1000000 a0 a1 a2 s
 | l=>bodyD prog false C 1000000 47 Try.f47 l s
theorem e47_ok:RunOk prog Aw 47 e47:=good_of (fn:=Try.f47) rfl rfl (by kernel_rfl) fun C args s=>by
 unfold e47
 split
 · rw [qOps_eq]; exact (f47_r C 1000000 _ _ _ s).symm
 · rfl
noncomputable def e48:Run TH:=fun C args s=>match args with
 | [a0,a1,a2]=>f48 (qOps prog) C 1000000 a0 a1 a2 s
 | l=>bodyD prog false C 1000000 48 Try.f48 l s
theorem e48_ok:RunOk prog Aw 48 e48:=good_of (fn:=Try.f48) rfl rfl (by kernel_rfl) fun C args s=>by
 unfold e48
 split
 · rw [qOps_eq]; exact (f48_r C 1000000 _ _ _ s).symm
 · rfl
noncomputable def e49:Run TH:=fun C args s=>match args with
 | [a0,a1]=>f49 (qOps prog) C 1000000 a0 a1 s
 | l=>bodyD prog false C 1000000 49 Try.f49 l s
theorem e49_ok:RunOk prog Aw 49 e49:=good_of (fn:=Try.f49) rfl rfl (by kernel_rfl) fun C args s=>by
 unfold e49
 split
 · rw [qOps_eq]; exact (f49_r C 1000000 _ _ s).symm
 · rfl
noncomputable def e50:Run TH:=fun C args s=>match args with
 | [a0,a1]=>f50 (qOps prog) C 1000000 a0 a1 s
 | l=>bodyD prog false C 1000000 50 Try.f50 l s
theorem e50_ok:RunOk prog Aw 50 e50:=good_of (fn:=Try.f50) rfl rfl (by kernel_rfl) fun C args s=>by
 unfold e50
 split
 · rw [qOps_eq]; exact (f50_r C 1000000 _ _ s).symm
 · rfl
noncomputable def e101:Run TH:=fun C args s=>match args with
 | [a0]=>f101 (qOps prog) C 1000000 a0 s
 | l=>bodyD prog false C 1000000 101 Try.f101 l s
theorem e101_ok:RunOk prog Aw 101 e101:=good_of (fn:=Try.f101) rfl rfl (by kernel_rfl) fun C args s=>by
 unfold e101
 split
 · rw [qOps_eq]; exact (f101_r C 1000000 _ s).symm
 · rfl
noncomputable def e102:Run TH:=fun C args s=>match args with
 | [a0,a1]=>f102 (qOps prog) C 1000000 a0 a1 s
 | l=>bodyD prog false C 1000000 102 Try.f102 l s
theorem e102_ok:RunOk prog Aw 102 e102:=good_of (fn:=Try.f102) rfl rfl (by kernel_rfl) fun C args s=>by
 unfold e102
 split
 · rw [qOps_eq]; exact (f102_r C 1000000 _ _ s).symm
 · rfl
noncomputable def e103:Run TH:=fun C args s=>match args with
 | [a0,a1,a2]=>f103 (qOps prog) C 1000000 a0 a1 a2 s
 | l=>bodyD prog false C 1000000 103 Try.f103 l s
theorem e103_ok:RunOk prog Aw 103 e103:=good_of (fn:=Try.f103) rfl rfl (by kernel_rfl) fun C args s=>by
 unfold e103
 split
 · rw [qOps_eq]; exact (f103_r C 1000000 _ _ _ s).symm
 · rfl
noncomputable def e104:Run TH:=fun C args s=>match args with
 | [a0,a1]=>f104 (qOps prog) C 1000000 a0 a1 s
 | l=>bodyD prog false C 1000000 104 Try.f104 l s
theorem e104_ok:RunOk prog Aw 104 e104:=good_of (fn:=Try.f104) rfl rfl (by kernel_rfl) fun C args s=>by
 unfold e104
 split
 · rw [qOps_eq]; exact (f104_r C 1000000 _ _ s).symm
 · rfl
noncomputable def e105:Run TH:=fun C args s=>match args with
 | [a0,a1]=>f105 (qOps prog) C 1000000 a0 a1 s
 | l=>bodyD prog false C 1000000 105 Try.f105 l s
theorem e105_ok:RunOk prog Aw 105 e105:=good_of (fn:=Try.f105) rfl rfl (by kernel_rfl) fun C args s=>by
 unfold e105
 split
 · rw [qOps_eq]; exact (f105_r C 1000000 _ _ s).symm
 · rfl
noncomputable def e106:Run TH:=fun C args s=>match args with
 | [a0]=>f106 (qOps prog) C 1000000 a0 s
 | l=>bodyD prog false C 1000000 106 Try.f106 l s
theorem e106_ok:RunOk prog Aw 106 e106:=good_of (fn:=Try.f106) rfl rfl (by kernel_rfl) fun C args s=>by
 unfold e106
 split
 · rw [qOps_eq]; exact (f106_r C 1000000 _ s).symm
 · rfl
noncomputable def e153:Run TH:=fun C args s=>match args with
 | [a0,a1,a2]=>f153 (qOps prog) C 1000000 a0 a1 a2 s
 | l=>bodyD prog false C 1000000 153 Try.f153 l s
theorem e153_ok:RunOk prog Aw 153 e153:=good_of (fn:=Try.f153) rfl rfl (by kernel_rfl) fun C args s=>by
 unfold e153
 split
 · rw [qOps_eq]; exact (f153_r C 1000000 _ _ _ s).symm
 · rfl
noncomputable def e154:Run TH:=fun C args s=>match args with
 | [a0,a1]=>f154 (qOps prog) C 1000000 a0 a1 s
 | l=>bodyD prog false C 1000000 154 Try.f154 l s
theorem e154_ok:RunOk prog Aw 154 e154:=good_of (fn:=Try.f154) rfl rfl (by kernel_rfl) fun C args s=>by
 unfold e154
 split
 · rw [qOps_eq]; exact (f154_r C 1000000 _ _ s).symm
 · rfl
noncomputable def tb:Tb TH:=tbNode 102 (tbNode 48 (tbNode 46 (tbLeaf 45 e45) (tbNode 47 (tbLeaf 46 e46) (tbLeaf 47 e47))) (tbNode 50 (tbNode 49 (tbLeaf 48 e48) (tbLeaf 49 e49)) (tbNode 101 (tbLeaf 50 e50) (tbLeaf 101 e101)))) (tbNode 105 (tbNode 103 (tbLeaf 102 e102) (tbNode 104 (tbLeaf 103 e103) (tbLeaf 104 e104))) (tbNode 153 (tbNode 106 (tbLeaf 105 e105) (tbLeaf 106 e106)) (tbNode 154 (tbLeaf 153 e153) (tbLeaf 154 e154))))
theorem tb_ok:TbOk prog Aw tb:=node_ok (node_ok (node_ok (leaf_ok e45_ok) (node_ok (leaf_ok e46_ok) (leaf_ok e47_ok))) (node_ok (node_ok (leaf_ok e48_ok) (leaf_ok e49_ok)) (node_ok (leaf_ok e50_ok) (leaf_ok e101_ok)))) (node_ok (node_ok (leaf_ok e102_ok) (node_ok (leaf_ok e103_ok) (leaf_ok e104_ok))) (node_ok (node_ok (leaf_ok e105_ok) (leaf_ok e106_ok)) (node_ok (leaf_ok e153_ok) (leaf_ok e154_ok))))
set_option maxRecDepth 1000000 in
theorem worksQ:allTrue (callG prog Aw tb 60 (.fn 45) [] emptyS)=true:=by kernel_rfl
theorem works:allTrue (callD prog Aw 60 (.fn 45) [] emptyS)=true:=by rw [← callG_eq tb_ok]; exact worksQ
end Go.Proofs.Ytmhmbmogodofeaa.S
