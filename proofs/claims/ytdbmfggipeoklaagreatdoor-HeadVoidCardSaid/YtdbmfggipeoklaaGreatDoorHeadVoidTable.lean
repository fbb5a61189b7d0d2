/- The table of plain runs. -/
import Derived.Test.YtdbmfggipeoklaaGreatDoorHeadVoidRuna
import Derived.Test.YtdbmfggipeoklaaGreatDoorHeadVoidRunb
import Derived.Test.YtdbmfggipeoklaaGreatDoorHeadVoidRunc
import Derived.Test.YtdbmfggipeoklaaGreatDoorHeadVoidRund
import Derived.Test.YtdbmfggipeoklaaGreatDoorHeadVoidCrc
import Derived.Test.YtdbmfggipeoklaaGreatDoorFv
set_option autoImplicit false
set_option maxRecDepth 100000
namespace Go.Proofs.YtdbmfggipeoklaaGreatDoor.headVoid
open Go.FS Go.RowKit
noncomputable def Aw : Ann TH := { i := I1, N := 1000000, row := fun f => Nat.beq f 138, cut := fun _ => none }
noncomputable def e8 : Run TH := fun C args s => match args with
  | [] => Go.Proofs.YtdbmfggipeoklaaGreatDoor.S.f8 (qOps Tryz.prog) C 1000000 s
  | l => bodyD Tryz.prog false C 1000000 8 Tryz.f8 l s
theorem e8_ok : RunOk Tryz.prog Aw 8 e8 := good_of (fn := Tryz.f8) rfl rfl (by kernel_rfl) fun C args s => by
  unfold e8
  split
  · rw [qOps_eq]; exact (Go.Proofs.YtdbmfggipeoklaaGreatDoor.S.f8_r C 1000000 s).symm
  · rfl
noncomputable def e9 : Run TH := fun C args s => match args with
  | [] => Go.Proofs.YtdbmfggipeoklaaGreatDoor.S.f9 (qOps Tryz.prog) C 1000000 s
  | l => bodyD Tryz.prog false C 1000000 9 Tryz.f9 l s
theorem e9_ok : RunOk Tryz.prog Aw 9 e9 := good_of (fn := Tryz.f9) rfl rfl (by kernel_rfl) fun C args s => by
  unfold e9
  split
  · rw [qOps_eq]; exact (Go.Proofs.YtdbmfggipeoklaaGreatDoor.S.f9_r C 1000000 s).symm
  · rfl
noncomputable def e11 : Run TH := fun C args s => match args with
  | [a0, a1] => Go.Proofs.YtdbmfggipeoklaaGreatDoor.S.f11 (qOps Tryz.prog) C 1000000 a0 a1 s
  | l => bodyD Tryz.prog false C 1000000 11 Tryz.f11 l s
theorem e11_ok : RunOk Tryz.prog Aw 11 e11 := good_of (fn := Tryz.f11) rfl rfl (by kernel_rfl) fun C args s => by
  unfold e11
  split
  · rw [qOps_eq]; exact (Go.Proofs.YtdbmfggipeoklaaGreatDoor.S.f11_r C 1000000 _ _ s).symm
  · rfl
noncomputable def e14 : Run TH := fun C args s => match args with
  | [a0, a1, a2] => Go.Proofs.YtdbmfggipeoklaaGreatDoor.S.f14 (qOps Tryz.prog) C 1000000 a0 a1 a2 s
  | l => bodyD Tryz.prog false C 1000000 14 Tryz.f14 l s
theorem e14_ok : RunOk Tryz.prog Aw 14 e14 := good_of (fn := Tryz.f14) rfl rfl (by kernel_rfl) fun C args s => by
  unfold e14
  split
  · rw [qOps_eq]; exact (Go.Proofs.YtdbmfggipeoklaaGreatDoor.S.f14_r C 1000000 _ _ _ s).symm
  · rfl
noncomputable def e17 : Run TH := fun C args s => match args with
  | [a0] => Go.Proofs.YtdbmfggipeoklaaGreatDoor.S.f17 (qOps Tryz.prog) C 1000000 a0 s
  | l => bodyD Tryz.prog false C 1000000 17 Tryz.f17 l s
theorem e17_ok : RunOk Tryz.prog Aw 17 e17 := good_of (fn := Tryz.f17) rfl rfl (by kernel_rfl) fun C args s => by
  unfold e17
  split
  · rw [qOps_eq]; exact (Go.Proofs.YtdbmfggipeoklaaGreatDoor.S.f17_r C 1000000 _ s).symm
  · rfl
noncomputable def e19 : Run TH := fun C args s => match args with
  | [a0] => Go.Proofs.YtdbmfggipeoklaaGreatDoor.S.f19 (qOps Tryz.prog) C 1000000 a0 s
  | l => bodyD Tryz.prog false C 1000000 19 Tryz.f19 l s
theorem e19_ok : RunOk Tryz.prog Aw 19 e19 := good_of (fn := Tryz.f19) rfl rfl (by kernel_rfl) fun C args s => by
  unfold e19
  split
  · rw [qOps_eq]; exact (Go.Proofs.YtdbmfggipeoklaaGreatDoor.S.f19_r C 1000000 _ s).symm
  · rfl
noncomputable def e21 : Run TH := fun C args s => match args with
  | [a0, a1, a2] => Go.Proofs.YtdbmfggipeoklaaGreatDoor.S.f21 (qOps Tryz.prog) C 1000000 a0 a1 a2 s
  | l => bodyD Tryz.prog false C 1000000 21 Tryz.f21 l s
theorem e21_ok : RunOk Tryz.prog Aw 21 e21 := good_of (fn := Tryz.f21) rfl rfl (by kernel_rfl) fun C args s => by
  unfold e21
  split
  · rw [qOps_eq]; exact (Go.Proofs.YtdbmfggipeoklaaGreatDoor.S.f21_r C 1000000 _ _ _ s).symm
  · rfl
noncomputable def e29 : Run TH := fun C args s => match args with
  | [a0, a1] => Go.Proofs.YtdbmfggipeoklaaGreatDoor.S.f29 (qOps Tryz.prog) C 1000000 a0 a1 s
  | l => bodyD Tryz.prog false C 1000000 29 Tryz.f29 l s
theorem e29_ok : RunOk Tryz.prog Aw 29 e29 := good_of (fn := Tryz.f29) rfl rfl (by kernel_rfl) fun C args s => by
  unfold e29
  split
  · rw [qOps_eq]; exact (Go.Proofs.YtdbmfggipeoklaaGreatDoor.S.f29_r C 1000000 _ _ s).symm
  · rfl
noncomputable def e30 : Run TH := fun C args s => match args with
  | [a0] => Go.Proofs.YtdbmfggipeoklaaGreatDoor.S.f30 (qOps Tryz.prog) C 1000000 a0 s
  | l => bodyD Tryz.prog false C 1000000 30 Tryz.f30 l s
theorem e30_ok : RunOk Tryz.prog Aw 30 e30 := good_of (fn := Tryz.f30) rfl rfl (by kernel_rfl) fun C args s => by
  unfold e30
  split
  · rw [qOps_eq]; exact (Go.Proofs.YtdbmfggipeoklaaGreatDoor.S.f30_r C 1000000 _ s).symm
  · rfl
noncomputable def e31 : Run TH := fun C args s => match args with
  | [a0] => Go.Proofs.YtdbmfggipeoklaaGreatDoor.S.f31 (qOps Tryz.prog) C 1000000 a0 s
  | l => bodyD Tryz.prog false C 1000000 31 Tryz.f31 l s
theorem e31_ok : RunOk Tryz.prog Aw 31 e31 := good_of (fn := Tryz.f31) rfl rfl (by kernel_rfl) fun C args s => by
  unfold e31
  split
  · rw [qOps_eq]; exact (Go.Proofs.YtdbmfggipeoklaaGreatDoor.S.f31_r C 1000000 _ s).symm
  · rfl
noncomputable def e32 : Run TH := fun C args s => match args with
  | [a0, a1] => Go.Proofs.YtdbmfggipeoklaaGreatDoor.S.f32 (qOps Tryz.prog) C 1000000 a0 a1 s
  | l => bodyD Tryz.prog false C 1000000 32 Tryz.f32 l s
theorem e32_ok : RunOk Tryz.prog Aw 32 e32 := good_of (fn := Tryz.f32) rfl rfl (by kernel_rfl) fun C args s => by
  unfold e32
  split
  · rw [qOps_eq]; exact (Go.Proofs.YtdbmfggipeoklaaGreatDoor.S.f32_r C 1000000 _ _ s).symm
  · rfl
noncomputable def e33 : Run TH := fun C args s => match args with
  | [a0, a1] => Go.Proofs.YtdbmfggipeoklaaGreatDoor.S.f33 (qOps Tryz.prog) C 1000000 a0 a1 s
  | l => bodyD Tryz.prog false C 1000000 33 Tryz.f33 l s
theorem e33_ok : RunOk Tryz.prog Aw 33 e33 := good_of (fn := Tryz.f33) rfl rfl (by kernel_rfl) fun C args s => by
  unfold e33
  split
  · rw [qOps_eq]; exact (Go.Proofs.YtdbmfggipeoklaaGreatDoor.S.f33_r C 1000000 _ _ s).symm
  · rfl
noncomputable def e34 : Run TH := fun C args s => match args with
  | [a0, a1, a2] => Go.Proofs.YtdbmfggipeoklaaGreatDoor.S.f34 (qOps Tryz.prog) C 1000000 a0 a1 a2 s
  | l => bodyD Tryz.prog false C 1000000 34 Tryz.f34 l s
theorem e34_ok : RunOk Tryz.prog Aw 34 e34 := good_of (fn := Tryz.f34) rfl rfl (by kernel_rfl) fun C args s => by
  unfold e34
  split
  · rw [qOps_eq]; exact (Go.Proofs.YtdbmfggipeoklaaGreatDoor.S.f34_r C 1000000 _ _ _ s).symm
  · rfl
noncomputable def e35 : Run TH := fun C args s => match args with
  | [a0] => Go.Proofs.YtdbmfggipeoklaaGreatDoor.S.f35 (qOps Tryz.prog) C 1000000 a0 s
  | l => bodyD Tryz.prog false C 1000000 35 Tryz.f35 l s
theorem e35_ok : RunOk Tryz.prog Aw 35 e35 := good_of (fn := Tryz.f35) rfl rfl (by kernel_rfl) fun C args s => by
  unfold e35
  split
  · rw [qOps_eq]; exact (Go.Proofs.YtdbmfggipeoklaaGreatDoor.S.f35_r C 1000000 _ s).symm
  · rfl
noncomputable def e36 : Run TH := fun C args s => match args with
  | [a0, a1] => Go.Proofs.YtdbmfggipeoklaaGreatDoor.S.f36 (qOps Tryz.prog) C 1000000 a0 a1 s
  | l => bodyD Tryz.prog false C 1000000 36 Tryz.f36 l s
theorem e36_ok : RunOk Tryz.prog Aw 36 e36 := good_of (fn := Tryz.f36) rfl rfl (by kernel_rfl) fun C args s => by
  unfold e36
  split
  · rw [qOps_eq]; exact (Go.Proofs.YtdbmfggipeoklaaGreatDoor.S.f36_r C 1000000 _ _ s).symm
  · rfl
noncomputable def e37 : Run TH := fun C args s => match args with
  | [a0, a1] => Go.Proofs.YtdbmfggipeoklaaGreatDoor.S.f37 (qOps Tryz.prog) C 1000000 a0 a1 s
  | l => bodyD Tryz.prog false C 1000000 37 Tryz.f37 l s
theorem e37_ok : RunOk Tryz.prog Aw 37 e37 := good_of (fn := Tryz.f37) rfl rfl (by kernel_rfl) fun C args s => by
  unfold e37
  split
  · rw [qOps_eq]; exact (Go.Proofs.YtdbmfggipeoklaaGreatDoor.S.f37_r C 1000000 _ _ s).symm
  · rfl
noncomputable def e38 : Run TH := fun C args s => match args with
  | [a0] => Go.Proofs.YtdbmfggipeoklaaGreatDoor.S.f38 (qOps Tryz.prog) C 1000000 a0 s
  | l => bodyD Tryz.prog false C 1000000 38 Tryz.f38 l s
theorem e38_ok : RunOk Tryz.prog Aw 38 e38 := good_of (fn := Tryz.f38) rfl rfl (by kernel_rfl) fun C args s => by
  unfold e38
  split
  · rw [qOps_eq]; exact (Go.Proofs.YtdbmfggipeoklaaGreatDoor.S.f38_r C 1000000 _ s).symm
  · rfl
noncomputable def e39 : Run TH := fun C args s => match args with
  | [a0] => Go.Proofs.YtdbmfggipeoklaaGreatDoor.S.f39 (qOps Tryz.prog) C 1000000 a0 s
  | l => bodyD Tryz.prog false C 1000000 39 Tryz.f39 l s
theorem e39_ok : RunOk Tryz.prog Aw 39 e39 := good_of (fn := Tryz.f39) rfl rfl (by kernel_rfl) fun C args s => by
  unfold e39
  split
  · rw [qOps_eq]; exact (Go.Proofs.YtdbmfggipeoklaaGreatDoor.S.f39_r C 1000000 _ s).symm
  · rfl
noncomputable def e43 : Run TH := fun C args s => match args with
  | [a0] => Go.Proofs.YtdbmfggipeoklaaGreatDoor.S.f43 (qOps Tryz.prog) C 1000000 a0 s
  | l => bodyD Tryz.prog false C 1000000 43 Tryz.f43 l s
theorem e43_ok : RunOk Tryz.prog Aw 43 e43 := good_of (fn := Tryz.f43) rfl rfl (by kernel_rfl) fun C args s => by
  unfold e43
  split
  · rw [qOps_eq]; exact (Go.Proofs.YtdbmfggipeoklaaGreatDoor.S.f43_r C 1000000 _ s).symm
  · rfl
noncomputable def e44 : Run TH := fun C args s => match args with
  | [a0] => Go.Proofs.YtdbmfggipeoklaaGreatDoor.S.f44 (qOps Tryz.prog) C 1000000 a0 s
  | l => bodyD Tryz.prog false C 1000000 44 Tryz.f44 l s
theorem e44_ok : RunOk Tryz.prog Aw 44 e44 := good_of (fn := Tryz.f44) rfl rfl (by kernel_rfl) fun C args s => by
  unfold e44
  split
  · rw [qOps_eq]; exact (Go.Proofs.YtdbmfggipeoklaaGreatDoor.S.f44_r C 1000000 _ s).symm
  · rfl
noncomputable def e45 : Run TH := fun C args s => match args with
  | [a0] => Go.Proofs.YtdbmfggipeoklaaGreatDoor.S.f45 (qOps Tryz.prog) C 1000000 a0 s
  | l => bodyD Tryz.prog false C 1000000 45 Tryz.f45 l s
theorem e45_ok : RunOk Tryz.prog Aw 45 e45 := good_of (fn := Tryz.f45) rfl rfl (by kernel_rfl) fun C args s => by
  unfold e45
  split
  · rw [qOps_eq]; exact (Go.Proofs.YtdbmfggipeoklaaGreatDoor.S.f45_r C 1000000 _ s).symm
  · rfl
noncomputable def e46 : Run TH := fun C args s => match args with
  | [a0, a1] => Go.Proofs.YtdbmfggipeoklaaGreatDoor.S.f46 (qOps Tryz.prog) C 1000000 a0 a1 s
  | l => bodyD Tryz.prog false C 1000000 46 Tryz.f46 l s
theorem e46_ok : RunOk Tryz.prog Aw 46 e46 := good_of (fn := Tryz.f46) rfl rfl (by kernel_rfl) fun C args s => by
  unfold e46
  split
  · rw [qOps_eq]; exact (Go.Proofs.YtdbmfggipeoklaaGreatDoor.S.f46_r C 1000000 _ _ s).symm
  · rfl
noncomputable def e47 : Run TH := fun C args s => match args with
  | [a0] => Go.Proofs.YtdbmfggipeoklaaGreatDoor.S.f47 (qOps Tryz.prog) C 1000000 a0 s
  | l => bodyD Tryz.prog false C 1000000 47 Tryz.f47 l s
theorem e47_ok : RunOk Tryz.prog Aw 47 e47 := good_of (fn := Tryz.f47) rfl rfl (by kernel_rfl) fun C args s => by
  unfold e47
  split
  · rw [qOps_eq]; exact (Go.Proofs.YtdbmfggipeoklaaGreatDoor.S.f47_r C 1000000 _ s).symm
  · rfl
noncomputable def e55 : Run TH := fun C args s => match args with
  | [a0, a1] => Go.Proofs.YtdbmfggipeoklaaGreatDoor.S.f55 (qOps Tryz.prog) C 1000000 a0 a1 s
  | l => bodyD Tryz.prog false C 1000000 55 Tryz.f55 l s
theorem e55_ok : RunOk Tryz.prog Aw 55 e55 := good_of (fn := Tryz.f55) rfl rfl (by kernel_rfl) fun C args s => by
  unfold e55
  split
  · rw [qOps_eq]; exact (Go.Proofs.YtdbmfggipeoklaaGreatDoor.S.f55_r C 1000000 _ _ s).symm
  · rfl
noncomputable def e56 : Run TH := fun C args s => match args with
  | [] => Go.Proofs.YtdbmfggipeoklaaGreatDoor.S.f56 (qOps Tryz.prog) C 1000000 s
  | l => bodyD Tryz.prog false C 1000000 56 Tryz.f56 l s
theorem e56_ok : RunOk Tryz.prog Aw 56 e56 := good_of (fn := Tryz.f56) rfl rfl (by kernel_rfl) fun C args s => by
  unfold e56
  split
  · rw [qOps_eq]; exact (Go.Proofs.YtdbmfggipeoklaaGreatDoor.S.f56_r C 1000000 s).symm
  · rfl
noncomputable def e57 : Run TH := fun C args s => match args with
  | [a0, a1] => Go.Proofs.YtdbmfggipeoklaaGreatDoor.S.f57 (qOps Tryz.prog) C 1000000 a0 a1 s
  | l => bodyD Tryz.prog false C 1000000 57 Tryz.f57 l s
theorem e57_ok : RunOk Tryz.prog Aw 57 e57 := good_of (fn := Tryz.f57) rfl rfl (by kernel_rfl) fun C args s => by
  unfold e57
  split
  · rw [qOps_eq]; exact (Go.Proofs.YtdbmfggipeoklaaGreatDoor.S.f57_r C 1000000 _ _ s).symm
  · rfl
noncomputable def e58 : Run TH := fun C args s => match args with
  | [a0] => Go.Proofs.YtdbmfggipeoklaaGreatDoor.S.f58 (qOps Tryz.prog) C 1000000 a0 s
  | l => bodyD Tryz.prog false C 1000000 58 Tryz.f58 l s
theorem e58_ok : RunOk Tryz.prog Aw 58 e58 := good_of (fn := Tryz.f58) rfl rfl (by kernel_rfl) fun C args s => by
  unfold e58
  split
  · rw [qOps_eq]; exact (Go.Proofs.YtdbmfggipeoklaaGreatDoor.S.f58_r C 1000000 _ s).symm
  · rfl
noncomputable def e59 : Run TH := fun C args s => match args with
  | [a0] => Go.Proofs.YtdbmfggipeoklaaGreatDoor.S.f59 (qOps Tryz.prog) C 1000000 a0 s
  | l => bodyD Tryz.prog false C 1000000 59 Tryz.f59 l s
theorem e59_ok : RunOk Tryz.prog Aw 59 e59 := good_of (fn := Tryz.f59) rfl rfl (by kernel_rfl) fun C args s => by
  unfold e59
  split
  · rw [qOps_eq]; exact (Go.Proofs.YtdbmfggipeoklaaGreatDoor.S.f59_r C 1000000 _ s).symm
  · rfl
noncomputable def e60 : Run TH := fun C args s => match args with
  | [a0, a1] => Go.Proofs.YtdbmfggipeoklaaGreatDoor.S.f60 (qOps Tryz.prog) C 1000000 a0 a1 s
  | l => bodyD Tryz.prog false C 1000000 60 Tryz.f60 l s
theorem e60_ok : RunOk Tryz.prog Aw 60 e60 := good_of (fn := Tryz.f60) rfl rfl (by kernel_rfl) fun C args s => by
  unfold e60
  split
  · rw [qOps_eq]; exact (Go.Proofs.YtdbmfggipeoklaaGreatDoor.S.f60_r C 1000000 _ _ s).symm
  · rfl
noncomputable def e61 : Run TH := fun C args s => match args with
  | [a0] => Go.Proofs.YtdbmfggipeoklaaGreatDoor.S.f61 (qOps Tryz.prog) C 1000000 a0 s
  | l => bodyD Tryz.prog false C 1000000 61 Tryz.f61 l s
theorem e61_ok : RunOk Tryz.prog Aw 61 e61 := good_of (fn := Tryz.f61) rfl rfl (by kernel_rfl) fun C args s => by
  unfold e61
  split
  · rw [qOps_eq]; exact (Go.Proofs.YtdbmfggipeoklaaGreatDoor.S.f61_r C 1000000 _ s).symm
  · rfl
noncomputable def e62 : Run TH := fun C args s => match args with
  | [a0] => Go.Proofs.YtdbmfggipeoklaaGreatDoor.S.f62 (qOps Tryz.prog) C 1000000 a0 s
  | l => bodyD Tryz.prog false C 1000000 62 Tryz.f62 l s
theorem e62_ok : RunOk Tryz.prog Aw 62 e62 := good_of (fn := Tryz.f62) rfl rfl (by kernel_rfl) fun C args s => by
  unfold e62
  split
  · rw [qOps_eq]; exact (Go.Proofs.YtdbmfggipeoklaaGreatDoor.S.f62_r C 1000000 _ s).symm
  · rfl
noncomputable def e63 : Run TH := fun C args s => match args with
  | [a0, a1] => Go.Proofs.YtdbmfggipeoklaaGreatDoor.S.f63 (qOps Tryz.prog) C 1000000 a0 a1 s
  | l => bodyD Tryz.prog false C 1000000 63 Tryz.f63 l s
theorem e63_ok : RunOk Tryz.prog Aw 63 e63 := good_of (fn := Tryz.f63) rfl rfl (by kernel_rfl) fun C args s => by
  unfold e63
  split
  · rw [qOps_eq]; exact (Go.Proofs.YtdbmfggipeoklaaGreatDoor.S.f63_r C 1000000 _ _ s).symm
  · rfl
noncomputable def e67 : Run TH := fun C args s => match args with
  | [a0, a1] => Go.Proofs.YtdbmfggipeoklaaGreatDoor.S.f67 (qOps Tryz.prog) C 1000000 a0 a1 s
  | l => bodyD Tryz.prog false C 1000000 67 Tryz.f67 l s
theorem e67_ok : RunOk Tryz.prog Aw 67 e67 := good_of (fn := Tryz.f67) rfl rfl (by kernel_rfl) fun C args s => by
  unfold e67
  split
  · rw [qOps_eq]; exact (Go.Proofs.YtdbmfggipeoklaaGreatDoor.S.f67_r C 1000000 _ _ s).symm
  · rfl
noncomputable def e68 : Run TH := fun C args s => match args with
  | [a0] => Go.Proofs.YtdbmfggipeoklaaGreatDoor.S.f68 (qOps Tryz.prog) C 1000000 a0 s
  | l => bodyD Tryz.prog false C 1000000 68 Tryz.f68 l s
theorem e68_ok : RunOk Tryz.prog Aw 68 e68 := good_of (fn := Tryz.f68) rfl rfl (by kernel_rfl) fun C args s => by
  unfold e68
  split
  · rw [qOps_eq]; exact (Go.Proofs.YtdbmfggipeoklaaGreatDoor.S.f68_r C 1000000 _ s).symm
  · rfl
noncomputable def e69 : Run TH := fun C args s => match args with
  | [a0] => Go.Proofs.YtdbmfggipeoklaaGreatDoor.S.f69 (qOps Tryz.prog) C 1000000 a0 s
  | l => bodyD Tryz.prog false C 1000000 69 Tryz.f69 l s
theorem e69_ok : RunOk Tryz.prog Aw 69 e69 := good_of (fn := Tryz.f69) rfl rfl (by kernel_rfl) fun C args s => by
  unfold e69
  split
  · rw [qOps_eq]; exact (Go.Proofs.YtdbmfggipeoklaaGreatDoor.S.f69_r C 1000000 _ s).symm
  · rfl
noncomputable def e71 : Run TH := fun C args s => match args with
  | [a0] => Go.Proofs.YtdbmfggipeoklaaGreatDoor.S.f71 (qOps Tryz.prog) C 1000000 a0 s
  | l => bodyD Tryz.prog false C 1000000 71 Tryz.f71 l s
theorem e71_ok : RunOk Tryz.prog Aw 71 e71 := good_of (fn := Tryz.f71) rfl rfl (by kernel_rfl) fun C args s => by
  unfold e71
  split
  · rw [qOps_eq]; exact (Go.Proofs.YtdbmfggipeoklaaGreatDoor.S.f71_r C 1000000 _ s).symm
  · rfl
noncomputable def e72 : Run TH := fun C args s => match args with
  | [a0, a1] => Go.Proofs.YtdbmfggipeoklaaGreatDoor.S.f72 (qOps Tryz.prog) C 1000000 a0 a1 s
  | l => bodyD Tryz.prog false C 1000000 72 Tryz.f72 l s
theorem e72_ok : RunOk Tryz.prog Aw 72 e72 := good_of (fn := Tryz.f72) rfl rfl (by kernel_rfl) fun C args s => by
  unfold e72
  split
  · rw [qOps_eq]; exact (Go.Proofs.YtdbmfggipeoklaaGreatDoor.S.f72_r C 1000000 _ _ s).symm
  · rfl
noncomputable def e74 : Run TH := fun C args s => match args with
  | [] => Go.Proofs.YtdbmfggipeoklaaGreatDoor.S.f74 (qOps Tryz.prog) C 1000000 s
  | l => bodyD Tryz.prog false C 1000000 74 Tryz.f74 l s
theorem e74_ok : RunOk Tryz.prog Aw 74 e74 := good_of (fn := Tryz.f74) rfl rfl (by kernel_rfl) fun C args s => by
  unfold e74
  split
  · rw [qOps_eq]; exact (Go.Proofs.YtdbmfggipeoklaaGreatDoor.S.f74_r C 1000000 s).symm
  · rfl
noncomputable def e75 : Run TH := fun C args s => match args with
  | [] => Go.Proofs.YtdbmfggipeoklaaGreatDoor.S.f75 (qOps Tryz.prog) C 1000000 s
  | l => bodyD Tryz.prog false C 1000000 75 Tryz.f75 l s
theorem e75_ok : RunOk Tryz.prog Aw 75 e75 := good_of (fn := Tryz.f75) rfl rfl (by kernel_rfl) fun C args s => by
  unfold e75
  split
  · rw [qOps_eq]; exact (Go.Proofs.YtdbmfggipeoklaaGreatDoor.S.f75_r C 1000000 s).symm
  · rfl
noncomputable def e76 : Run TH := fun C args s => match args with
  | [a0] => Go.Proofs.YtdbmfggipeoklaaGreatDoor.S.f76 (qOps Tryz.prog) C 1000000 a0 s
  | l => bodyD Tryz.prog false C 1000000 76 Tryz.f76 l s
theorem e76_ok : RunOk Tryz.prog Aw 76 e76 := good_of (fn := Tryz.f76) rfl rfl (by kernel_rfl) fun C args s => by
  unfold e76
  split
  · rw [qOps_eq]; exact (Go.Proofs.YtdbmfggipeoklaaGreatDoor.S.f76_r C 1000000 _ s).symm
  · rfl
noncomputable def e77 : Run TH := fun C args s => match args with
  | [a0] => Go.Proofs.YtdbmfggipeoklaaGreatDoor.S.f77 (qOps Tryz.prog) C 1000000 a0 s
  | l => bodyD Tryz.prog false C 1000000 77 Tryz.f77 l s
theorem e77_ok : RunOk Tryz.prog Aw 77 e77 := good_of (fn := Tryz.f77) rfl rfl (by kernel_rfl) fun C args s => by
  unfold e77
  split
  · rw [qOps_eq]; exact (Go.Proofs.YtdbmfggipeoklaaGreatDoor.S.f77_r C 1000000 _ s).symm
  · rfl
noncomputable def e78 : Run TH := fun C args s => match args with
  | [a0, a1] => Go.Proofs.YtdbmfggipeoklaaGreatDoor.S.f78 (qOps Tryz.prog) C 1000000 a0 a1 s
  | l => bodyD Tryz.prog false C 1000000 78 Tryz.f78 l s
theorem e78_ok : RunOk Tryz.prog Aw 78 e78 := good_of (fn := Tryz.f78) rfl rfl (by kernel_rfl) fun C args s => by
  unfold e78
  split
  · rw [qOps_eq]; exact (Go.Proofs.YtdbmfggipeoklaaGreatDoor.S.f78_r C 1000000 _ _ s).symm
  · rfl
noncomputable def e79 : Run TH := fun C args s => match args with
  | [a0, a1] => Go.Proofs.YtdbmfggipeoklaaGreatDoor.S.f79 (qOps Tryz.prog) C 1000000 a0 a1 s
  | l => bodyD Tryz.prog false C 1000000 79 Tryz.f79 l s
theorem e79_ok : RunOk Tryz.prog Aw 79 e79 := good_of (fn := Tryz.f79) rfl rfl (by kernel_rfl) fun C args s => by
  unfold e79
  split
  · rw [qOps_eq]; exact (Go.Proofs.YtdbmfggipeoklaaGreatDoor.S.f79_r C 1000000 _ _ s).symm
  · rfl
noncomputable def e80 : Run TH := fun C args s => match args with
  | [a0] => Go.Proofs.YtdbmfggipeoklaaGreatDoor.S.f80 (qOps Tryz.prog) C 1000000 a0 s
  | l => bodyD Tryz.prog false C 1000000 80 Tryz.f80 l s
theorem e80_ok : RunOk Tryz.prog Aw 80 e80 := good_of (fn := Tryz.f80) rfl rfl (by kernel_rfl) fun C args s => by
  unfold e80
  split
  · rw [qOps_eq]; exact (Go.Proofs.YtdbmfggipeoklaaGreatDoor.S.f80_r C 1000000 _ s).symm
  · rfl
noncomputable def e81 : Run TH := fun C args s => match args with
  | [a0] => Go.Proofs.YtdbmfggipeoklaaGreatDoor.S.f81 (qOps Tryz.prog) C 1000000 a0 s
  | l => bodyD Tryz.prog false C 1000000 81 Tryz.f81 l s
theorem e81_ok : RunOk Tryz.prog Aw 81 e81 := good_of (fn := Tryz.f81) rfl rfl (by kernel_rfl) fun C args s => by
  unfold e81
  split
  · rw [qOps_eq]; exact (Go.Proofs.YtdbmfggipeoklaaGreatDoor.S.f81_r C 1000000 _ s).symm
  · rfl
noncomputable def e82 : Run TH := fun C args s => match args with
  | [a0, a1] => Go.Proofs.YtdbmfggipeoklaaGreatDoor.S.f82 (qOps Tryz.prog) C 1000000 a0 a1 s
  | l => bodyD Tryz.prog false C 1000000 82 Tryz.f82 l s
theorem e82_ok : RunOk Tryz.prog Aw 82 e82 := good_of (fn := Tryz.f82) rfl rfl (by kernel_rfl) fun C args s => by
  unfold e82
  split
  · rw [qOps_eq]; exact (Go.Proofs.YtdbmfggipeoklaaGreatDoor.S.f82_r C 1000000 _ _ s).symm
  · rfl
noncomputable def e83 : Run TH := fun C args s => match args with
  | [a0, a1, a2] => Go.Proofs.YtdbmfggipeoklaaGreatDoor.S.f83 (qOps Tryz.prog) C 1000000 a0 a1 a2 s
  | l => bodyD Tryz.prog false C 1000000 83 Tryz.f83 l s
theorem e83_ok : RunOk Tryz.prog Aw 83 e83 := good_of (fn := Tryz.f83) rfl rfl (by kernel_rfl) fun C args s => by
  unfold e83
  split
  · rw [qOps_eq]; exact (Go.Proofs.YtdbmfggipeoklaaGreatDoor.S.f83_r C 1000000 _ _ _ s).symm
  · rfl
noncomputable def e84 : Run TH := fun C args s => match args with
  | [a0, a1, a2] => Go.Proofs.YtdbmfggipeoklaaGreatDoor.S.f84 (qOps Tryz.prog) C 1000000 a0 a1 a2 s
  | l => bodyD Tryz.prog false C 1000000 84 Tryz.f84 l s
theorem e84_ok : RunOk Tryz.prog Aw 84 e84 := good_of (fn := Tryz.f84) rfl rfl (by kernel_rfl) fun C args s => by
  unfold e84
  split
  · rw [qOps_eq]; exact (Go.Proofs.YtdbmfggipeoklaaGreatDoor.S.f84_r C 1000000 _ _ _ s).symm
  · rfl
noncomputable def e85 : Run TH := fun C args s => match args with
  | [a0, a1] => Go.Proofs.YtdbmfggipeoklaaGreatDoor.S.f85 (qOps Tryz.prog) C 1000000 a0 a1 s
  | l => bodyD Tryz.prog false C 1000000 85 Tryz.f85 l s
theorem e85_ok : RunOk Tryz.prog Aw 85 e85 := good_of (fn := Tryz.f85) rfl rfl (by kernel_rfl) fun C args s => by
  unfold e85
  split
  · rw [qOps_eq]; exact (Go.Proofs.YtdbmfggipeoklaaGreatDoor.S.f85_r C 1000000 _ _ s).symm
  · rfl
noncomputable def e87 : Run TH := fun C args s => match args with
  | [a0, a1] => Go.Proofs.YtdbmfggipeoklaaGreatDoor.S.f87 (qOps Tryz.prog) C 1000000 a0 a1 s
  | l => bodyD Tryz.prog false C 1000000 87 Tryz.f87 l s
theorem e87_ok : RunOk Tryz.prog Aw 87 e87 := good_of (fn := Tryz.f87) rfl rfl (by kernel_rfl) fun C args s => by
  unfold e87
  split
  · rw [qOps_eq]; exact (Go.Proofs.YtdbmfggipeoklaaGreatDoor.S.f87_r C 1000000 _ _ s).symm
  · rfl
noncomputable def e88 : Run TH := fun C args s => match args with
  | [a0, a1] => Go.Proofs.YtdbmfggipeoklaaGreatDoor.S.f88 (qOps Tryz.prog) C 1000000 a0 a1 s
  | l => bodyD Tryz.prog false C 1000000 88 Tryz.f88 l s
theorem e88_ok : RunOk Tryz.prog Aw 88 e88 := good_of (fn := Tryz.f88) rfl rfl (by kernel_rfl) fun C args s => by
  unfold e88
  split
  · rw [qOps_eq]; exact (Go.Proofs.YtdbmfggipeoklaaGreatDoor.S.f88_r C 1000000 _ _ s).symm
  · rfl
noncomputable def e89 : Run TH := fun C args s => match args with
  | [a0, a1, a2] => Go.Proofs.YtdbmfggipeoklaaGreatDoor.S.f89 (qOps Tryz.prog) C 1000000 a0 a1 a2 s
  | l => bodyD Tryz.prog false C 1000000 89 Tryz.f89 l s
theorem e89_ok : RunOk Tryz.prog Aw 89 e89 := good_of (fn := Tryz.f89) rfl rfl (by kernel_rfl) fun C args s => by
  unfold e89
  split
  · rw [qOps_eq]; exact (Go.Proofs.YtdbmfggipeoklaaGreatDoor.S.f89_r C 1000000 _ _ _ s).symm
  · rfl
noncomputable def e90 : Run TH := fun C args s => match args with
  | [a0, a1, a2] => Go.Proofs.YtdbmfggipeoklaaGreatDoor.S.f90 (qOps Tryz.prog) C 1000000 a0 a1 a2 s
  | l => bodyD Tryz.prog false C 1000000 90 Tryz.f90 l s
theorem e90_ok : RunOk Tryz.prog Aw 90 e90 := good_of (fn := Tryz.f90) rfl rfl (by kernel_rfl) fun C args s => by
  unfold e90
  split
  · rw [qOps_eq]; exact (Go.Proofs.YtdbmfggipeoklaaGreatDoor.S.f90_r C 1000000 _ _ _ s).symm
  · rfl
noncomputable def e91 : Run TH := fun C args s => match args with
  | [a0, a1, a2] => Go.Proofs.YtdbmfggipeoklaaGreatDoor.S.f91 (qOps Tryz.prog) C 1000000 a0 a1 a2 s
  | l => bodyD Tryz.prog false C 1000000 91 Tryz.f91 l s
theorem e91_ok : RunOk Tryz.prog Aw 91 e91 := good_of (fn := Tryz.f91) rfl rfl (by kernel_rfl) fun C args s => by
  unfold e91
  split
  · rw [qOps_eq]; exact (Go.Proofs.YtdbmfggipeoklaaGreatDoor.S.f91_r C 1000000 _ _ _ s).symm
  · rfl
noncomputable def e92 : Run TH := fun C args s => match args with
  | [a0, a1, a2] => Go.Proofs.YtdbmfggipeoklaaGreatDoor.S.f92 (qOps Tryz.prog) C 1000000 a0 a1 a2 s
  | l => bodyD Tryz.prog false C 1000000 92 Tryz.f92 l s
theorem e92_ok : RunOk Tryz.prog Aw 92 e92 := good_of (fn := Tryz.f92) rfl rfl (by kernel_rfl) fun C args s => by
  unfold e92
  split
  · rw [qOps_eq]; exact (Go.Proofs.YtdbmfggipeoklaaGreatDoor.S.f92_r C 1000000 _ _ _ s).symm
  · rfl
noncomputable def e93 : Run TH := fun C args s => match args with
  | [a0, a1, a2] => Go.Proofs.YtdbmfggipeoklaaGreatDoor.S.f93 (qOps Tryz.prog) C 1000000 a0 a1 a2 s
  | l => bodyD Tryz.prog false C 1000000 93 Tryz.f93 l s
theorem e93_ok : RunOk Tryz.prog Aw 93 e93 := good_of (fn := Tryz.f93) rfl rfl (by kernel_rfl) fun C args s => by
  unfold e93
  split
  · rw [qOps_eq]; exact (Go.Proofs.YtdbmfggipeoklaaGreatDoor.S.f93_r C 1000000 _ _ _ s).symm
  · rfl
noncomputable def e95 : Run TH := fun C args s => match args with
  | [a0, a1] => Go.Proofs.YtdbmfggipeoklaaGreatDoor.S.f95 (qOps Tryz.prog) C 1000000 a0 a1 s
  | l => bodyD Tryz.prog false C 1000000 95 Tryz.f95 l s
theorem e95_ok : RunOk Tryz.prog Aw 95 e95 := good_of (fn := Tryz.f95) rfl rfl (by kernel_rfl) fun C args s => by
  unfold e95
  split
  · rw [qOps_eq]; exact (Go.Proofs.YtdbmfggipeoklaaGreatDoor.S.f95_r C 1000000 _ _ s).symm
  · rfl
noncomputable def e96 : Run TH := fun C args s => match args with
  | [a0, a1, a2, a3] => Go.Proofs.YtdbmfggipeoklaaGreatDoor.S.f96 (qOps Tryz.prog) C 1000000 a0 a1 a2 a3 s
  | l => bodyD Tryz.prog false C 1000000 96 Tryz.f96 l s
theorem e96_ok : RunOk Tryz.prog Aw 96 e96 := good_of (fn := Tryz.f96) rfl rfl (by kernel_rfl) fun C args s => by
  unfold e96
  split
  · rw [qOps_eq]; exact (Go.Proofs.YtdbmfggipeoklaaGreatDoor.S.f96_r C 1000000 _ _ _ _ s).symm
  · rfl
noncomputable def e97 : Run TH := fun C args s => match args with
  | [a0, a1, a2, a3] => Go.Proofs.YtdbmfggipeoklaaGreatDoor.S.f97 (qOps Tryz.prog) C 1000000 a0 a1 a2 a3 s
  | l => bodyD Tryz.prog false C 1000000 97 Tryz.f97 l s
theorem e97_ok : RunOk Tryz.prog Aw 97 e97 := good_of (fn := Tryz.f97) rfl rfl (by kernel_rfl) fun C args s => by
  unfold e97
  split
  · rw [qOps_eq]; exact (Go.Proofs.YtdbmfggipeoklaaGreatDoor.S.f97_r C 1000000 _ _ _ _ s).symm
  · rfl
noncomputable def e98 : Run TH := fun C args s => match args with
  | [a0] => Go.Proofs.YtdbmfggipeoklaaGreatDoor.S.f98 (qOps Tryz.prog) C 1000000 a0 s
  | l => bodyD Tryz.prog false C 1000000 98 Tryz.f98 l s
theorem e98_ok : RunOk Tryz.prog Aw 98 e98 := good_of (fn := Tryz.f98) rfl rfl (by kernel_rfl) fun C args s => by
  unfold e98
  split
  · rw [qOps_eq]; exact (Go.Proofs.YtdbmfggipeoklaaGreatDoor.S.f98_r C 1000000 _ s).symm
  · rfl
noncomputable def e99 : Run TH := fun C args s => match args with
  | [a0] => Go.Proofs.YtdbmfggipeoklaaGreatDoor.S.f99 (qOps Tryz.prog) C 1000000 a0 s
  | l => bodyD Tryz.prog false C 1000000 99 Tryz.f99 l s
theorem e99_ok : RunOk Tryz.prog Aw 99 e99 := good_of (fn := Tryz.f99) rfl rfl (by kernel_rfl) fun C args s => by
  unfold e99
  split
  · rw [qOps_eq]; exact (Go.Proofs.YtdbmfggipeoklaaGreatDoor.S.f99_r C 1000000 _ s).symm
  · rfl
noncomputable def e100 : Run TH := fun C args s => match args with
  | [a0, a1, a2] => Go.Proofs.YtdbmfggipeoklaaGreatDoor.S.f100 (qOps Tryz.prog) C 1000000 a0 a1 a2 s
  | l => bodyD Tryz.prog false C 1000000 100 Tryz.f100 l s
theorem e100_ok : RunOk Tryz.prog Aw 100 e100 := good_of (fn := Tryz.f100) rfl rfl (by kernel_rfl) fun C args s => by
  unfold e100
  split
  · rw [qOps_eq]; exact (Go.Proofs.YtdbmfggipeoklaaGreatDoor.S.f100_r C 1000000 _ _ _ s).symm
  · rfl
noncomputable def e101 : Run TH := fun C args s => match args with
  | [a0] => Go.Proofs.YtdbmfggipeoklaaGreatDoor.S.f101 (qOps Tryz.prog) C 1000000 a0 s
  | l => bodyD Tryz.prog false C 1000000 101 Tryz.f101 l s
theorem e101_ok : RunOk Tryz.prog Aw 101 e101 := good_of (fn := Tryz.f101) rfl rfl (by kernel_rfl) fun C args s => by
  unfold e101
  split
  · rw [qOps_eq]; exact (Go.Proofs.YtdbmfggipeoklaaGreatDoor.S.f101_r C 1000000 _ s).symm
  · rfl
noncomputable def e102 : Run TH := fun C args s => match args with
  | [a0] => Go.Proofs.YtdbmfggipeoklaaGreatDoor.S.f102 (qOps Tryz.prog) C 1000000 a0 s
  | l => bodyD Tryz.prog false C 1000000 102 Tryz.f102 l s
theorem e102_ok : RunOk Tryz.prog Aw 102 e102 := good_of (fn := Tryz.f102) rfl rfl (by kernel_rfl) fun C args s => by
  unfold e102
  split
  · rw [qOps_eq]; exact (Go.Proofs.YtdbmfggipeoklaaGreatDoor.S.f102_r C 1000000 _ s).symm
  · rfl
noncomputable def e103 : Run TH := fun C args s => match args with
  | [a0, a1] => Go.Proofs.YtdbmfggipeoklaaGreatDoor.S.f103 (qOps Tryz.prog) C 1000000 a0 a1 s
  | l => bodyD Tryz.prog false C 1000000 103 Tryz.f103 l s
theorem e103_ok : RunOk Tryz.prog Aw 103 e103 := good_of (fn := Tryz.f103) rfl rfl (by kernel_rfl) fun C args s => by
  unfold e103
  split
  · rw [qOps_eq]; exact (Go.Proofs.YtdbmfggipeoklaaGreatDoor.S.f103_r C 1000000 _ _ s).symm
  · rfl
noncomputable def e104 : Run TH := fun C args s => match args with
  | [a0] => Go.Proofs.YtdbmfggipeoklaaGreatDoor.S.f104 (qOps Tryz.prog) C 1000000 a0 s
  | l => bodyD Tryz.prog false C 1000000 104 Tryz.f104 l s
theorem e104_ok : RunOk Tryz.prog Aw 104 e104 := good_of (fn := Tryz.f104) rfl rfl (by kernel_rfl) fun C args s => by
  unfold e104
  split
  · rw [qOps_eq]; exact (Go.Proofs.YtdbmfggipeoklaaGreatDoor.S.f104_r C 1000000 _ s).symm
  · rfl
noncomputable def e105 : Run TH := fun C args s => match args with
  | [a0, a1] => Go.Proofs.YtdbmfggipeoklaaGreatDoor.S.f105 (qOps Tryz.prog) C 1000000 a0 a1 s
  | l => bodyD Tryz.prog false C 1000000 105 Tryz.f105 l s
theorem e105_ok : RunOk Tryz.prog Aw 105 e105 := good_of (fn := Tryz.f105) rfl rfl (by kernel_rfl) fun C args s => by
  unfold e105
  split
  · rw [qOps_eq]; exact (Go.Proofs.YtdbmfggipeoklaaGreatDoor.S.f105_r C 1000000 _ _ s).symm
  · rfl
noncomputable def e106 : Run TH := fun C args s => match args with
  | [a0] => Go.Proofs.YtdbmfggipeoklaaGreatDoor.S.f106 (qOps Tryz.prog) C 1000000 a0 s
  | l => bodyD Tryz.prog false C 1000000 106 Tryz.f106 l s
theorem e106_ok : RunOk Tryz.prog Aw 106 e106 := good_of (fn := Tryz.f106) rfl rfl (by kernel_rfl) fun C args s => by
  unfold e106
  split
  · rw [qOps_eq]; exact (Go.Proofs.YtdbmfggipeoklaaGreatDoor.S.f106_r C 1000000 _ s).symm
  · rfl
noncomputable def e107 : Run TH := fun C args s => match args with
  | [a0, a1] => Go.Proofs.YtdbmfggipeoklaaGreatDoor.S.f107 (qOps Tryz.prog) C 1000000 a0 a1 s
  | l => bodyD Tryz.prog false C 1000000 107 Tryz.f107 l s
theorem e107_ok : RunOk Tryz.prog Aw 107 e107 := good_of (fn := Tryz.f107) rfl rfl (by kernel_rfl) fun C args s => by
  unfold e107
  split
  · rw [qOps_eq]; exact (Go.Proofs.YtdbmfggipeoklaaGreatDoor.S.f107_r C 1000000 _ _ s).symm
  · rfl
noncomputable def e108 : Run TH := fun C args s => match args with
  | [a0, a1, a2] => Go.Proofs.YtdbmfggipeoklaaGreatDoor.S.f108 (qOps Tryz.prog) C 1000000 a0 a1 a2 s
  | l => bodyD Tryz.prog false C 1000000 108 Tryz.f108 l s
theorem e108_ok : RunOk Tryz.prog Aw 108 e108 := good_of (fn := Tryz.f108) rfl rfl (by kernel_rfl) fun C args s => by
  unfold e108
  split
  · rw [qOps_eq]; exact (Go.Proofs.YtdbmfggipeoklaaGreatDoor.S.f108_r C 1000000 _ _ _ s).symm
  · rfl
noncomputable def e109 : Run TH := fun C args s => match args with
  | [a0] => Go.Proofs.YtdbmfggipeoklaaGreatDoor.S.f109 (qOps Tryz.prog) C 1000000 a0 s
  | l => bodyD Tryz.prog false C 1000000 109 Tryz.f109 l s
theorem e109_ok : RunOk Tryz.prog Aw 109 e109 := good_of (fn := Tryz.f109) rfl rfl (by kernel_rfl) fun C args s => by
  unfold e109
  split
  · rw [qOps_eq]; exact (Go.Proofs.YtdbmfggipeoklaaGreatDoor.S.f109_r C 1000000 _ s).symm
  · rfl
noncomputable def e110 : Run TH := fun C args s => match args with
  | [a0] => Go.Proofs.YtdbmfggipeoklaaGreatDoor.S.f110 (qOps Tryz.prog) C 1000000 a0 s
  | l => bodyD Tryz.prog false C 1000000 110 Tryz.f110 l s
theorem e110_ok : RunOk Tryz.prog Aw 110 e110 := good_of (fn := Tryz.f110) rfl rfl (by kernel_rfl) fun C args s => by
  unfold e110
  split
  · rw [qOps_eq]; exact (Go.Proofs.YtdbmfggipeoklaaGreatDoor.S.f110_r C 1000000 _ s).symm
  · rfl
noncomputable def e111 : Run TH := fun C args s => match args with
  | [a0] => Go.Proofs.YtdbmfggipeoklaaGreatDoor.S.f111 (qOps Tryz.prog) C 1000000 a0 s
  | l => bodyD Tryz.prog false C 1000000 111 Tryz.f111 l s
theorem e111_ok : RunOk Tryz.prog Aw 111 e111 := good_of (fn := Tryz.f111) rfl rfl (by kernel_rfl) fun C args s => by
  unfold e111
  split
  · rw [qOps_eq]; exact (Go.Proofs.YtdbmfggipeoklaaGreatDoor.S.f111_r C 1000000 _ s).symm
  · rfl
noncomputable def e112 : Run TH := fun C args s => match args with
  | [a0, a1] => Go.Proofs.YtdbmfggipeoklaaGreatDoor.S.f112 (qOps Tryz.prog) C 1000000 a0 a1 s
  | l => bodyD Tryz.prog false C 1000000 112 Tryz.f112 l s
theorem e112_ok : RunOk Tryz.prog Aw 112 e112 := good_of (fn := Tryz.f112) rfl rfl (by kernel_rfl) fun C args s => by
  unfold e112
  split
  · rw [qOps_eq]; exact (Go.Proofs.YtdbmfggipeoklaaGreatDoor.S.f112_r C 1000000 _ _ s).symm
  · rfl
noncomputable def e113 : Run TH := fun C args s => match args with
  | [a0, a1] => Go.Proofs.YtdbmfggipeoklaaGreatDoor.S.f113 (qOps Tryz.prog) C 1000000 a0 a1 s
  | l => bodyD Tryz.prog false C 1000000 113 Tryz.f113 l s
theorem e113_ok : RunOk Tryz.prog Aw 113 e113 := good_of (fn := Tryz.f113) rfl rfl (by kernel_rfl) fun C args s => by
  unfold e113
  split
  · rw [qOps_eq]; exact (Go.Proofs.YtdbmfggipeoklaaGreatDoor.S.f113_r C 1000000 _ _ s).symm
  · rfl
noncomputable def e114 : Run TH := fun C args s => match args with
  | [a0] => Go.Proofs.YtdbmfggipeoklaaGreatDoor.S.f114 (qOps Tryz.prog) C 1000000 a0 s
  | l => bodyD Tryz.prog false C 1000000 114 Tryz.f114 l s
theorem e114_ok : RunOk Tryz.prog Aw 114 e114 := good_of (fn := Tryz.f114) rfl rfl (by kernel_rfl) fun C args s => by
  unfold e114
  split
  · rw [qOps_eq]; exact (Go.Proofs.YtdbmfggipeoklaaGreatDoor.S.f114_r C 1000000 _ s).symm
  · rfl
noncomputable def e115 : Run TH := fun C args s => match args with
  | [a0] => Go.Proofs.YtdbmfggipeoklaaGreatDoor.S.f115 (qOps Tryz.prog) C 1000000 a0 s
  | l => bodyD Tryz.prog false C 1000000 115 Tryz.f115 l s
theorem e115_ok : RunOk Tryz.prog Aw 115 e115 := good_of (fn := Tryz.f115) rfl rfl (by kernel_rfl) fun C args s => by
  unfold e115
  split
  · rw [qOps_eq]; exact (Go.Proofs.YtdbmfggipeoklaaGreatDoor.S.f115_r C 1000000 _ s).symm
  · rfl
noncomputable def e116 : Run TH := fun C args s => match args with
  | [a0, a1, a2] => Go.Proofs.YtdbmfggipeoklaaGreatDoor.S.f116 (qOps Tryz.prog) C 1000000 a0 a1 a2 s
  | l => bodyD Tryz.prog false C 1000000 116 Tryz.f116 l s
theorem e116_ok : RunOk Tryz.prog Aw 116 e116 := good_of (fn := Tryz.f116) rfl rfl (by kernel_rfl) fun C args s => by
  unfold e116
  split
  · rw [qOps_eq]; exact (Go.Proofs.YtdbmfggipeoklaaGreatDoor.S.f116_r C 1000000 _ _ _ s).symm
  · rfl
noncomputable def e117 : Run TH := fun C args s => match args with
  | [a0, a1, a2] => Go.Proofs.YtdbmfggipeoklaaGreatDoor.S.f117 (qOps Tryz.prog) C 1000000 a0 a1 a2 s
  | l => bodyD Tryz.prog false C 1000000 117 Tryz.f117 l s
theorem e117_ok : RunOk Tryz.prog Aw 117 e117 := good_of (fn := Tryz.f117) rfl rfl (by kernel_rfl) fun C args s => by
  unfold e117
  split
  · rw [qOps_eq]; exact (Go.Proofs.YtdbmfggipeoklaaGreatDoor.S.f117_r C 1000000 _ _ _ s).symm
  · rfl
noncomputable def e118 : Run TH := fun C args s => match args with
  | [a0, a1, a2] => Go.Proofs.YtdbmfggipeoklaaGreatDoor.S.f118 (qOps Tryz.prog) C 1000000 a0 a1 a2 s
  | l => bodyD Tryz.prog false C 1000000 118 Tryz.f118 l s
theorem e118_ok : RunOk Tryz.prog Aw 118 e118 := good_of (fn := Tryz.f118) rfl rfl (by kernel_rfl) fun C args s => by
  unfold e118
  split
  · rw [qOps_eq]; exact (Go.Proofs.YtdbmfggipeoklaaGreatDoor.S.f118_r C 1000000 _ _ _ s).symm
  · rfl
noncomputable def e119 : Run TH := fun C args s => match args with
  | [a0, a1, a2] => Go.Proofs.YtdbmfggipeoklaaGreatDoor.S.f119 (qOps Tryz.prog) C 1000000 a0 a1 a2 s
  | l => bodyD Tryz.prog false C 1000000 119 Tryz.f119 l s
theorem e119_ok : RunOk Tryz.prog Aw 119 e119 := good_of (fn := Tryz.f119) rfl rfl (by kernel_rfl) fun C args s => by
  unfold e119
  split
  · rw [qOps_eq]; exact (Go.Proofs.YtdbmfggipeoklaaGreatDoor.S.f119_r C 1000000 _ _ _ s).symm
  · rfl
noncomputable def e120 : Run TH := fun C args s => match args with
  | [a0, a1, a2] => Go.Proofs.YtdbmfggipeoklaaGreatDoor.S.f120 (qOps Tryz.prog) C 1000000 a0 a1 a2 s
  | l => bodyD Tryz.prog false C 1000000 120 Tryz.f120 l s
theorem e120_ok : RunOk Tryz.prog Aw 120 e120 := good_of (fn := Tryz.f120) rfl rfl (by kernel_rfl) fun C args s => by
  unfold e120
  split
  · rw [qOps_eq]; exact (Go.Proofs.YtdbmfggipeoklaaGreatDoor.S.f120_r C 1000000 _ _ _ s).symm
  · rfl
noncomputable def e121 : Run TH := fun C args s => match args with
  | [a0, a1, a2] => Go.Proofs.YtdbmfggipeoklaaGreatDoor.S.f121 (qOps Tryz.prog) C 1000000 a0 a1 a2 s
  | l => bodyD Tryz.prog false C 1000000 121 Tryz.f121 l s
theorem e121_ok : RunOk Tryz.prog Aw 121 e121 := good_of (fn := Tryz.f121) rfl rfl (by kernel_rfl) fun C args s => by
  unfold e121
  split
  · rw [qOps_eq]; exact (Go.Proofs.YtdbmfggipeoklaaGreatDoor.S.f121_r C 1000000 _ _ _ s).symm
  · rfl
noncomputable def e123 : Run TH := fun C args s => match args with
  | [a0, a1] => Go.Proofs.YtdbmfggipeoklaaGreatDoor.S.f123 (qOps Tryz.prog) C 1000000 a0 a1 s
  | l => bodyD Tryz.prog false C 1000000 123 Tryz.f123 l s
theorem e123_ok : RunOk Tryz.prog Aw 123 e123 := good_of (fn := Tryz.f123) rfl rfl (by kernel_rfl) fun C args s => by
  unfold e123
  split
  · rw [qOps_eq]; exact (Go.Proofs.YtdbmfggipeoklaaGreatDoor.S.f123_r C 1000000 _ _ s).symm
  · rfl
noncomputable def e124 : Run TH := fun C args s => match args with
  | [a0, a1, a2, a3] => Go.Proofs.YtdbmfggipeoklaaGreatDoor.S.f124 (qOps Tryz.prog) C 1000000 a0 a1 a2 a3 s
  | l => bodyD Tryz.prog false C 1000000 124 Tryz.f124 l s
theorem e124_ok : RunOk Tryz.prog Aw 124 e124 := good_of (fn := Tryz.f124) rfl rfl (by kernel_rfl) fun C args s => by
  unfold e124
  split
  · rw [qOps_eq]; exact (Go.Proofs.YtdbmfggipeoklaaGreatDoor.S.f124_r C 1000000 _ _ _ _ s).symm
  · rfl
noncomputable def e125 : Run TH := fun C args s => match args with
  | [a0, a1, a2, a3] => Go.Proofs.YtdbmfggipeoklaaGreatDoor.S.f125 (qOps Tryz.prog) C 1000000 a0 a1 a2 a3 s
  | l => bodyD Tryz.prog false C 1000000 125 Tryz.f125 l s
theorem e125_ok : RunOk Tryz.prog Aw 125 e125 := good_of (fn := Tryz.f125) rfl rfl (by kernel_rfl) fun C args s => by
  unfold e125
  split
  · rw [qOps_eq]; exact (Go.Proofs.YtdbmfggipeoklaaGreatDoor.S.f125_r C 1000000 _ _ _ _ s).symm
  · rfl
noncomputable def e126 : Run TH := fun C args s => match args with
  | [a0, a1] => Go.Proofs.YtdbmfggipeoklaaGreatDoor.S.f126 (qOps Tryz.prog) C 1000000 a0 a1 s
  | l => bodyD Tryz.prog false C 1000000 126 Tryz.f126 l s
theorem e126_ok : RunOk Tryz.prog Aw 126 e126 := good_of (fn := Tryz.f126) rfl rfl (by kernel_rfl) fun C args s => by
  unfold e126
  split
  · rw [qOps_eq]; exact (Go.Proofs.YtdbmfggipeoklaaGreatDoor.S.f126_r C 1000000 _ _ s).symm
  · rfl
noncomputable def e127 : Run TH := fun C args s => match args with
  | [a0] => Go.Proofs.YtdbmfggipeoklaaGreatDoor.S.f127 (qOps Tryz.prog) C 1000000 a0 s
  | l => bodyD Tryz.prog false C 1000000 127 Tryz.f127 l s
theorem e127_ok : RunOk Tryz.prog Aw 127 e127 := good_of (fn := Tryz.f127) rfl rfl (by kernel_rfl) fun C args s => by
  unfold e127
  split
  · rw [qOps_eq]; exact (Go.Proofs.YtdbmfggipeoklaaGreatDoor.S.f127_r C 1000000 _ s).symm
  · rfl
noncomputable def e128 : Run TH := fun C args s => match args with
  | [a0, a1] => Go.Proofs.YtdbmfggipeoklaaGreatDoor.S.f128 (qOps Tryz.prog) C 1000000 a0 a1 s
  | l => bodyD Tryz.prog false C 1000000 128 Tryz.f128 l s
theorem e128_ok : RunOk Tryz.prog Aw 128 e128 := good_of (fn := Tryz.f128) rfl rfl (by kernel_rfl) fun C args s => by
  unfold e128
  split
  · rw [qOps_eq]; exact (Go.Proofs.YtdbmfggipeoklaaGreatDoor.S.f128_r C 1000000 _ _ s).symm
  · rfl
noncomputable def e129 : Run TH := fun C args s => match args with
  | [a0] => Go.Proofs.YtdbmfggipeoklaaGreatDoor.S.f129 (qOps Tryz.prog) C 1000000 a0 s
  | l => bodyD Tryz.prog false C 1000000 129 Tryz.f129 l s
theorem e129_ok : RunOk Tryz.prog Aw 129 e129 := good_of (fn := Tryz.f129) rfl rfl (by kernel_rfl) fun C args s => by
  unfold e129
  split
  · rw [qOps_eq]; exact (Go.Proofs.YtdbmfggipeoklaaGreatDoor.S.f129_r C 1000000 _ s).symm
  · rfl
noncomputable def e130 : Run TH := fun C args s => match args with
  | [a0, a1, a2, a3] => Go.Proofs.YtdbmfggipeoklaaGreatDoor.S.f130 (qOps Tryz.prog) C 1000000 a0 a1 a2 a3 s
  | l => bodyD Tryz.prog false C 1000000 130 Tryz.f130 l s
theorem e130_ok : RunOk Tryz.prog Aw 130 e130 := good_of (fn := Tryz.f130) rfl rfl (by kernel_rfl) fun C args s => by
  unfold e130
  split
  · rw [qOps_eq]; exact (Go.Proofs.YtdbmfggipeoklaaGreatDoor.S.f130_r C 1000000 _ _ _ _ s).symm
  · rfl
noncomputable def e131 : Run TH := fun C args s => match args with
  | [a0] => Go.Proofs.YtdbmfggipeoklaaGreatDoor.S.f131 (qOps Tryz.prog) C 1000000 a0 s
  | l => bodyD Tryz.prog false C 1000000 131 Tryz.f131 l s
theorem e131_ok : RunOk Tryz.prog Aw 131 e131 := good_of (fn := Tryz.f131) rfl rfl (by kernel_rfl) fun C args s => by
  unfold e131
  split
  · rw [qOps_eq]; exact (Go.Proofs.YtdbmfggipeoklaaGreatDoor.S.f131_r C 1000000 _ s).symm
  · rfl
noncomputable def e132 : Run TH := fun C args s => match args with
  | [a0] => Go.Proofs.YtdbmfggipeoklaaGreatDoor.S.f132 (qOps Tryz.prog) C 1000000 a0 s
  | l => bodyD Tryz.prog false C 1000000 132 Tryz.f132 l s
theorem e132_ok : RunOk Tryz.prog Aw 132 e132 := good_of (fn := Tryz.f132) rfl rfl (by kernel_rfl) fun C args s => by
  unfold e132
  split
  · rw [qOps_eq]; exact (Go.Proofs.YtdbmfggipeoklaaGreatDoor.S.f132_r C 1000000 _ s).symm
  · rfl
noncomputable def e133 : Run TH := fun C args s => match args with
  | [a0, a1, a2] => Go.Proofs.YtdbmfggipeoklaaGreatDoor.S.f133 (qOps Tryz.prog) C 1000000 a0 a1 a2 s
  | l => bodyD Tryz.prog false C 1000000 133 Tryz.f133 l s
theorem e133_ok : RunOk Tryz.prog Aw 133 e133 := good_of (fn := Tryz.f133) rfl rfl (by kernel_rfl) fun C args s => by
  unfold e133
  split
  · rw [qOps_eq]; exact (Go.Proofs.YtdbmfggipeoklaaGreatDoor.S.f133_r C 1000000 _ _ _ s).symm
  · rfl
noncomputable def e134 : Run TH := fun C args s => match args with
  | [a0, a1, a2, a3, a4] => Go.Proofs.YtdbmfggipeoklaaGreatDoor.S.f134 (qOps Tryz.prog) C 1000000 a0 a1 a2 a3 a4 s
  | l => bodyD Tryz.prog false C 1000000 134 Tryz.f134 l s
theorem e134_ok : RunOk Tryz.prog Aw 134 e134 := good_of (fn := Tryz.f134) rfl rfl (by kernel_rfl) fun C args s => by
  unfold e134
  split
  · rw [qOps_eq]; exact (Go.Proofs.YtdbmfggipeoklaaGreatDoor.S.f134_r C 1000000 _ _ _ _ _ s).symm
  · rfl
noncomputable def e135 : Run TH := fun C args s => match args with
  | [a0, a1] => Go.Proofs.YtdbmfggipeoklaaGreatDoor.S.f135 (qOps Tryz.prog) C 1000000 a0 a1 s
  | l => bodyD Tryz.prog false C 1000000 135 Tryz.f135 l s
theorem e135_ok : RunOk Tryz.prog Aw 135 e135 := good_of (fn := Tryz.f135) rfl rfl (by kernel_rfl) fun C args s => by
  unfold e135
  split
  · rw [qOps_eq]; exact (Go.Proofs.YtdbmfggipeoklaaGreatDoor.S.f135_r C 1000000 _ _ s).symm
  · rfl
noncomputable def e136 : Run TH := fun C args s => match args with
  | [a0, a1] => Go.Proofs.YtdbmfggipeoklaaGreatDoor.S.f136 (qOps Tryz.prog) C 1000000 a0 a1 s
  | l => bodyD Tryz.prog false C 1000000 136 Tryz.f136 l s
theorem e136_ok : RunOk Tryz.prog Aw 136 e136 := good_of (fn := Tryz.f136) rfl rfl (by kernel_rfl) fun C args s => by
  unfold e136
  split
  · rw [qOps_eq]; exact (Go.Proofs.YtdbmfggipeoklaaGreatDoor.S.f136_r C 1000000 _ _ s).symm
  · rfl
noncomputable def e137 : Run TH := fun C args s => match args with
  | [a0, a1] => Go.Proofs.YtdbmfggipeoklaaGreatDoor.S.f137 (qOps Tryz.prog) C 1000000 a0 a1 s
  | l => bodyD Tryz.prog false C 1000000 137 Tryz.f137 l s
theorem e137_ok : RunOk Tryz.prog Aw 137 e137 := good_of (fn := Tryz.f137) rfl rfl (by kernel_rfl) fun C args s => by
  unfold e137
  split
  · rw [qOps_eq]; exact (Go.Proofs.YtdbmfggipeoklaaGreatDoor.S.f137_r C 1000000 _ _ s).symm
  · rfl
noncomputable def e138 : Run TH := fun C args s => match args with
  | [a0, a1, a2] => Go.Proofs.YtdbmfggipeoklaaGreatDoor.S.f138 (qOps Tryz.prog) C 1000000 a0 a1 a2 s
  | l => bodyD Tryz.prog true C 1000000 138 Tryz.f138 l s
theorem e138_ok : RunOk Tryz.prog Aw 138 e138 := good_of (fn := Tryz.f138) rfl rfl (by kernel_rfl) fun C args s => by
  unfold e138
  split
  · rw [qOps_eq]; exact (Go.Proofs.YtdbmfggipeoklaaGreatDoor.S.f138_r C 1000000 _ _ _ s).symm
  · rfl
noncomputable def e139 : Run TH := fun C args s => match args with
  | [a0, a1] => Go.Proofs.YtdbmfggipeoklaaGreatDoor.S.f139 (qOps Tryz.prog) C 1000000 a0 a1 s
  | l => bodyD Tryz.prog false C 1000000 139 Tryz.f139 l s
theorem e139_ok : RunOk Tryz.prog Aw 139 e139 := good_of (fn := Tryz.f139) rfl rfl (by kernel_rfl) fun C args s => by
  unfold e139
  split
  · rw [qOps_eq]; exact (Go.Proofs.YtdbmfggipeoklaaGreatDoor.S.f139_r C 1000000 _ _ s).symm
  · rfl
noncomputable def e140 : Run TH := fun C args s => match args with
  | [a0] => Go.Proofs.YtdbmfggipeoklaaGreatDoor.S.f140 (qOps Tryz.prog) C 1000000 a0 s
  | l => bodyD Tryz.prog false C 1000000 140 Tryz.f140 l s
theorem e140_ok : RunOk Tryz.prog Aw 140 e140 := good_of (fn := Tryz.f140) rfl rfl (by kernel_rfl) fun C args s => by
  unfold e140
  split
  · rw [qOps_eq]; exact (Go.Proofs.YtdbmfggipeoklaaGreatDoor.S.f140_r C 1000000 _ s).symm
  · rfl
noncomputable def e141 : Run TH := fun C args s => match args with
  | [a0] => Go.Proofs.YtdbmfggipeoklaaGreatDoor.S.f141 (qOps Tryz.prog) C 1000000 a0 s
  | l => bodyD Tryz.prog false C 1000000 141 Tryz.f141 l s
theorem e141_ok : RunOk Tryz.prog Aw 141 e141 := good_of (fn := Tryz.f141) rfl rfl (by kernel_rfl) fun C args s => by
  unfold e141
  split
  · rw [qOps_eq]; exact (Go.Proofs.YtdbmfggipeoklaaGreatDoor.S.f141_r C 1000000 _ s).symm
  · rfl
noncomputable def e142 : Run TH := fun C args s => match args with
  | [a0, a1, a2, a3] => Go.Proofs.YtdbmfggipeoklaaGreatDoor.S.f142 (qOps Tryz.prog) C 1000000 a0 a1 a2 a3 s
  | l => bodyD Tryz.prog false C 1000000 142 Tryz.f142 l s
theorem e142_ok : RunOk Tryz.prog Aw 142 e142 := good_of (fn := Tryz.f142) rfl rfl (by kernel_rfl) fun C args s => by
  unfold e142
  split
  · rw [qOps_eq]; exact (Go.Proofs.YtdbmfggipeoklaaGreatDoor.S.f142_r C 1000000 _ _ _ _ s).symm
  · rfl
noncomputable def e143 : Run TH := fun C args s => match args with
  | [a0, a1, a2] => Go.Proofs.YtdbmfggipeoklaaGreatDoor.S.f143 (qOps Tryz.prog) C 1000000 a0 a1 a2 s
  | l => bodyD Tryz.prog false C 1000000 143 Tryz.f143 l s
theorem e143_ok : RunOk Tryz.prog Aw 143 e143 := good_of (fn := Tryz.f143) rfl rfl (by kernel_rfl) fun C args s => by
  unfold e143
  split
  · rw [qOps_eq]; exact (Go.Proofs.YtdbmfggipeoklaaGreatDoor.S.f143_r C 1000000 _ _ _ s).symm
  · rfl
noncomputable def e144 : Run TH := fun C args s => match args with
  | [a0, a1, a2, a3, a4] => Go.Proofs.YtdbmfggipeoklaaGreatDoor.S.f144 (qOps Tryz.prog) C 1000000 a0 a1 a2 a3 a4 s
  | l => bodyD Tryz.prog false C 1000000 144 Tryz.f144 l s
theorem e144_ok : RunOk Tryz.prog Aw 144 e144 := good_of (fn := Tryz.f144) rfl rfl (by kernel_rfl) fun C args s => by
  unfold e144
  split
  · rw [qOps_eq]; exact (Go.Proofs.YtdbmfggipeoklaaGreatDoor.S.f144_r C 1000000 _ _ _ _ _ s).symm
  · rfl
noncomputable def e145 : Run TH := fun C args s => match args with
  | [a0] => Go.Proofs.YtdbmfggipeoklaaGreatDoor.S.f145 (qOps Tryz.prog) C 1000000 a0 s
  | l => bodyD Tryz.prog false C 1000000 145 Tryz.f145 l s
theorem e145_ok : RunOk Tryz.prog Aw 145 e145 := good_of (fn := Tryz.f145) rfl rfl (by kernel_rfl) fun C args s => by
  unfold e145
  split
  · rw [qOps_eq]; exact (Go.Proofs.YtdbmfggipeoklaaGreatDoor.S.f145_r C 1000000 _ s).symm
  · rfl
noncomputable def e146 : Run TH := fun C args s => match args with
  | [a0, a1] => Go.Proofs.YtdbmfggipeoklaaGreatDoor.S.f146 (qOps Tryz.prog) C 1000000 a0 a1 s
  | l => bodyD Tryz.prog false C 1000000 146 Tryz.f146 l s
theorem e146_ok : RunOk Tryz.prog Aw 146 e146 := good_of (fn := Tryz.f146) rfl rfl (by kernel_rfl) fun C args s => by
  unfold e146
  split
  · rw [qOps_eq]; exact (Go.Proofs.YtdbmfggipeoklaaGreatDoor.S.f146_r C 1000000 _ _ s).symm
  · rfl
noncomputable def e147 : Run TH := fun C args s => match args with
  | [a0] => Go.Proofs.YtdbmfggipeoklaaGreatDoor.S.f147 (qOps Tryz.prog) C 1000000 a0 s
  | l => bodyD Tryz.prog false C 1000000 147 Tryz.f147 l s
theorem e147_ok : RunOk Tryz.prog Aw 147 e147 := good_of (fn := Tryz.f147) rfl rfl (by kernel_rfl) fun C args s => by
  unfold e147
  split
  · rw [qOps_eq]; exact (Go.Proofs.YtdbmfggipeoklaaGreatDoor.S.f147_r C 1000000 _ s).symm
  · rfl
noncomputable def e148 : Run TH := fun C args s => match args with
  | [a0, a1, a2] => Go.Proofs.YtdbmfggipeoklaaGreatDoor.S.f148 (qOps Tryz.prog) C 1000000 a0 a1 a2 s
  | l => bodyD Tryz.prog false C 1000000 148 Tryz.f148 l s
theorem e148_ok : RunOk Tryz.prog Aw 148 e148 := good_of (fn := Tryz.f148) rfl rfl (by kernel_rfl) fun C args s => by
  unfold e148
  split
  · rw [qOps_eq]; exact (Go.Proofs.YtdbmfggipeoklaaGreatDoor.S.f148_r C 1000000 _ _ _ s).symm
  · rfl
noncomputable def e149 : Run TH := fun C args s => match args with
  | [a0, a1] => Go.Proofs.YtdbmfggipeoklaaGreatDoor.S.f149 (qOps Tryz.prog) C 1000000 a0 a1 s
  | l => bodyD Tryz.prog false C 1000000 149 Tryz.f149 l s
theorem e149_ok : RunOk Tryz.prog Aw 149 e149 := good_of (fn := Tryz.f149) rfl rfl (by kernel_rfl) fun C args s => by
  unfold e149
  split
  · rw [qOps_eq]; exact (Go.Proofs.YtdbmfggipeoklaaGreatDoor.S.f149_r C 1000000 _ _ s).symm
  · rfl
noncomputable def e150 : Run TH := fun C args s => match args with
  | [a0, a1] => Go.Proofs.YtdbmfggipeoklaaGreatDoor.S.f150 (qOps Tryz.prog) C 1000000 a0 a1 s
  | l => bodyD Tryz.prog false C 1000000 150 Tryz.f150 l s
theorem e150_ok : RunOk Tryz.prog Aw 150 e150 := good_of (fn := Tryz.f150) rfl rfl (by kernel_rfl) fun C args s => by
  unfold e150
  split
  · rw [qOps_eq]; exact (Go.Proofs.YtdbmfggipeoklaaGreatDoor.S.f150_r C 1000000 _ _ s).symm
  · rfl
noncomputable def e151 : Run TH := fun C args s => match args with
  | [a0] => Go.Proofs.YtdbmfggipeoklaaGreatDoor.S.f151 (qOps Tryz.prog) C 1000000 a0 s
  | l => bodyD Tryz.prog false C 1000000 151 Tryz.f151 l s
theorem e151_ok : RunOk Tryz.prog Aw 151 e151 := good_of (fn := Tryz.f151) rfl rfl (by kernel_rfl) fun C args s => by
  unfold e151
  split
  · rw [qOps_eq]; exact (Go.Proofs.YtdbmfggipeoklaaGreatDoor.S.f151_r C 1000000 _ s).symm
  · rfl
noncomputable def e152 : Run TH := fun C args s => match args with
  | [a0, a1] => Go.Proofs.YtdbmfggipeoklaaGreatDoor.S.f152 (qOps Tryz.prog) C 1000000 a0 a1 s
  | l => bodyD Tryz.prog false C 1000000 152 Tryz.f152 l s
theorem e152_ok : RunOk Tryz.prog Aw 152 e152 := good_of (fn := Tryz.f152) rfl rfl (by kernel_rfl) fun C args s => by
  unfold e152
  split
  · rw [qOps_eq]; exact (Go.Proofs.YtdbmfggipeoklaaGreatDoor.S.f152_r C 1000000 _ _ s).symm
  · rfl
noncomputable def e153 : Run TH := fun C args s => match args with
  | [a0, a1, a2, a3] => Go.Proofs.YtdbmfggipeoklaaGreatDoor.S.f153 (qOps Tryz.prog) C 1000000 a0 a1 a2 a3 s
  | l => bodyD Tryz.prog false C 1000000 153 Tryz.f153 l s
theorem e153_ok : RunOk Tryz.prog Aw 153 e153 := good_of (fn := Tryz.f153) rfl rfl (by kernel_rfl) fun C args s => by
  unfold e153
  split
  · rw [qOps_eq]; exact (Go.Proofs.YtdbmfggipeoklaaGreatDoor.S.f153_r C 1000000 _ _ _ _ s).symm
  · rfl
noncomputable def e154 : Run TH := fun _ args s => (crcI args s).map fun p => [p]
theorem e154_ok : RunOk Tryz.prog Aw 154 e154 := good_i rfl
noncomputable def e155 : Run TH := fun C args s => match args with
  | [a0, a1, a2, a3] => Go.Proofs.YtdbmfggipeoklaaGreatDoor.S.f155 (qOps Tryz.prog) C 1000000 a0 a1 a2 a3 s
  | l => bodyD Tryz.prog false C 1000000 155 Tryz.f155 l s
theorem e155_ok : RunOk Tryz.prog Aw 155 e155 := good_of (fn := Tryz.f155) rfl rfl (by kernel_rfl) fun C args s => by
  unfold e155
  split
  · rw [qOps_eq]; exact (Go.Proofs.YtdbmfggipeoklaaGreatDoor.S.f155_r C 1000000 _ _ _ _ s).symm
  · rfl
noncomputable def e156 : Run TH := fun C args s => match args with
  | [a0] => Go.Proofs.YtdbmfggipeoklaaGreatDoor.S.f156 (qOps Tryz.prog) C 1000000 a0 s
  | l => bodyD Tryz.prog false C 1000000 156 Tryz.f156 l s
theorem e156_ok : RunOk Tryz.prog Aw 156 e156 := good_of (fn := Tryz.f156) rfl rfl (by kernel_rfl) fun C args s => by
  unfold e156
  split
  · rw [qOps_eq]; exact (Go.Proofs.YtdbmfggipeoklaaGreatDoor.S.f156_r C 1000000 _ s).symm
  · rfl
noncomputable def e157 : Run TH := fun C args s => match args with
  | [a0] => Go.Proofs.YtdbmfggipeoklaaGreatDoor.S.f157 (qOps Tryz.prog) C 1000000 a0 s
  | l => bodyD Tryz.prog false C 1000000 157 Tryz.f157 l s
theorem e157_ok : RunOk Tryz.prog Aw 157 e157 := good_of (fn := Tryz.f157) rfl rfl (by kernel_rfl) fun C args s => by
  unfold e157
  split
  · rw [qOps_eq]; exact (Go.Proofs.YtdbmfggipeoklaaGreatDoor.S.f157_r C 1000000 _ s).symm
  · rfl
noncomputable def e158 : Run TH := fun C args s => match args with
  | [a0, a1] => Go.Proofs.YtdbmfggipeoklaaGreatDoor.S.f158 (qOps Tryz.prog) C 1000000 a0 a1 s
  | l => bodyD Tryz.prog false C 1000000 158 Tryz.f158 l s
theorem e158_ok : RunOk Tryz.prog Aw 158 e158 := good_of (fn := Tryz.f158) rfl rfl (by kernel_rfl) fun C args s => by
  unfold e158
  split
  · rw [qOps_eq]; exact (Go.Proofs.YtdbmfggipeoklaaGreatDoor.S.f158_r C 1000000 _ _ s).symm
  · rfl
noncomputable def e159 : Run TH := fun C args s => match args with
  | [a0] => Go.Proofs.YtdbmfggipeoklaaGreatDoor.S.f159 (qOps Tryz.prog) C 1000000 a0 s
  | l => bodyD Tryz.prog false C 1000000 159 Tryz.f159 l s
theorem e159_ok : RunOk Tryz.prog Aw 159 e159 := good_of (fn := Tryz.f159) rfl rfl (by kernel_rfl) fun C args s => by
  unfold e159
  split
  · rw [qOps_eq]; exact (Go.Proofs.YtdbmfggipeoklaaGreatDoor.S.f159_r C 1000000 _ s).symm
  · rfl
noncomputable def e160 : Run TH := fun C args s => match args with
  | [a0] => Go.Proofs.YtdbmfggipeoklaaGreatDoor.S.f160 (qOps Tryz.prog) C 1000000 a0 s
  | l => bodyD Tryz.prog false C 1000000 160 Tryz.f160 l s
theorem e160_ok : RunOk Tryz.prog Aw 160 e160 := good_of (fn := Tryz.f160) rfl rfl (by kernel_rfl) fun C args s => by
  unfold e160
  split
  · rw [qOps_eq]; exact (Go.Proofs.YtdbmfggipeoklaaGreatDoor.S.f160_r C 1000000 _ s).symm
  · rfl
noncomputable def e161 : Run TH := fun C args s => match args with
  | [a0] => Go.Proofs.YtdbmfggipeoklaaGreatDoor.S.f161 (qOps Tryz.prog) C 1000000 a0 s
  | l => bodyD Tryz.prog false C 1000000 161 Tryz.f161 l s
theorem e161_ok : RunOk Tryz.prog Aw 161 e161 := good_of (fn := Tryz.f161) rfl rfl (by kernel_rfl) fun C args s => by
  unfold e161
  split
  · rw [qOps_eq]; exact (Go.Proofs.YtdbmfggipeoklaaGreatDoor.S.f161_r C 1000000 _ s).symm
  · rfl
noncomputable def e162 : Run TH := fun C args s => match args with
  | [a0, a1] => Go.Proofs.YtdbmfggipeoklaaGreatDoor.S.f162 (qOps Tryz.prog) C 1000000 a0 a1 s
  | l => bodyD Tryz.prog false C 1000000 162 Tryz.f162 l s
theorem e162_ok : RunOk Tryz.prog Aw 162 e162 := good_of (fn := Tryz.f162) rfl rfl (by kernel_rfl) fun C args s => by
  unfold e162
  split
  · rw [qOps_eq]; exact (Go.Proofs.YtdbmfggipeoklaaGreatDoor.S.f162_r C 1000000 _ _ s).symm
  · rfl
noncomputable def e163 : Run TH := fun C args s => match args with
  | [a0, a1] => Go.Proofs.YtdbmfggipeoklaaGreatDoor.S.f163 (qOps Tryz.prog) C 1000000 a0 a1 s
  | l => bodyD Tryz.prog false C 1000000 163 Tryz.f163 l s
theorem e163_ok : RunOk Tryz.prog Aw 163 e163 := good_of (fn := Tryz.f163) rfl rfl (by kernel_rfl) fun C args s => by
  unfold e163
  split
  · rw [qOps_eq]; exact (Go.Proofs.YtdbmfggipeoklaaGreatDoor.S.f163_r C 1000000 _ _ s).symm
  · rfl
noncomputable def e164 : Run TH := fun C args s => match args with
  | [a0, a1] => Go.Proofs.YtdbmfggipeoklaaGreatDoor.S.f164 (qOps Tryz.prog) C 1000000 a0 a1 s
  | l => bodyD Tryz.prog false C 1000000 164 Tryz.f164 l s
theorem e164_ok : RunOk Tryz.prog Aw 164 e164 := good_of (fn := Tryz.f164) rfl rfl (by kernel_rfl) fun C args s => by
  unfold e164
  split
  · rw [qOps_eq]; exact (Go.Proofs.YtdbmfggipeoklaaGreatDoor.S.f164_r C 1000000 _ _ s).symm
  · rfl
noncomputable def e165 : Run TH := fun C args s => match args with
  | [a0, a1] => Go.Proofs.YtdbmfggipeoklaaGreatDoor.S.f165 (qOps Tryz.prog) C 1000000 a0 a1 s
  | l => bodyD Tryz.prog false C 1000000 165 Tryz.f165 l s
theorem e165_ok : RunOk Tryz.prog Aw 165 e165 := good_of (fn := Tryz.f165) rfl rfl (by kernel_rfl) fun C args s => by
  unfold e165
  split
  · rw [qOps_eq]; exact (Go.Proofs.YtdbmfggipeoklaaGreatDoor.S.f165_r C 1000000 _ _ s).symm
  · rfl
noncomputable def tb : Tb TH := tbNode 102 (tbNode 63 (tbNode 37 (tbNode 29 (tbNode 14 (tbNode 9 (tbLeaf 8 e8) (tbNode 11 (tbLeaf 9 e9) (tbLeaf 11 e11))) (tbNode 19 (tbNode 17 (tbLeaf 14 e14) (tbLeaf 17 e17)) (tbNode 21 (tbLeaf 19 e19) (tbLeaf 21 e21)))) (tbNode 33 (tbNode 31 (tbNode 30 (tbLeaf 29 e29) (tbLeaf 30 e30)) (tbNode 32 (tbLeaf 31 e31) (tbLeaf 32 e32))) (tbNode 35 (tbNode 34 (tbLeaf 33 e33) (tbLeaf 34 e34)) (tbNode 36 (tbLeaf 35 e35) (tbLeaf 36 e36))))) (tbNode 55 (tbNode 44 (tbNode 39 (tbNode 38 (tbLeaf 37 e37) (tbLeaf 38 e38)) (tbNode 43 (tbLeaf 39 e39) (tbLeaf 43 e43))) (tbNode 46 (tbNode 45 (tbLeaf 44 e44) (tbLeaf 45 e45)) (tbNode 47 (tbLeaf 46 e46) (tbLeaf 47 e47)))) (tbNode 59 (tbNode 57 (tbNode 56 (tbLeaf 55 e55) (tbLeaf 56 e56)) (tbNode 58 (tbLeaf 57 e57) (tbLeaf 58 e58))) (tbNode 61 (tbNode 60 (tbLeaf 59 e59) (tbLeaf 60 e60)) (tbNode 62 (tbLeaf 61 e61) (tbLeaf 62 e62)))))) (tbNode 84 (tbNode 76 (tbNode 71 (tbNode 68 (tbNode 67 (tbLeaf 63 e63) (tbLeaf 67 e67)) (tbNode 69 (tbLeaf 68 e68) (tbLeaf 69 e69))) (tbNode 74 (tbNode 72 (tbLeaf 71 e71) (tbLeaf 72 e72)) (tbNode 75 (tbLeaf 74 e74) (tbLeaf 75 e75)))) (tbNode 80 (tbNode 78 (tbNode 77 (tbLeaf 76 e76) (tbLeaf 77 e77)) (tbNode 79 (tbLeaf 78 e78) (tbLeaf 79 e79))) (tbNode 82 (tbNode 81 (tbLeaf 80 e80) (tbLeaf 81 e81)) (tbNode 83 (tbLeaf 82 e82) (tbLeaf 83 e83))))) (tbNode 93 (tbNode 89 (tbNode 87 (tbNode 85 (tbLeaf 84 e84) (tbLeaf 85 e85)) (tbNode 88 (tbLeaf 87 e87) (tbLeaf 88 e88))) (tbNode 91 (tbNode 90 (tbLeaf 89 e89) (tbLeaf 90 e90)) (tbNode 92 (tbLeaf 91 e91) (tbLeaf 92 e92)))) (tbNode 98 (tbNode 96 (tbNode 95 (tbLeaf 93 e93) (tbLeaf 95 e95)) (tbNode 97 (tbLeaf 96 e96) (tbLeaf 97 e97))) (tbNode 100 (tbNode 99 (tbLeaf 98 e98) (tbLeaf 99 e99)) (tbNode 101 (tbLeaf 100 e100) (tbLeaf 101 e101))))))) (tbNode 134 (tbNode 117 (tbNode 109 (tbNode 105 (tbNode 103 (tbLeaf 102 e102) (tbNode 104 (tbLeaf 103 e103) (tbLeaf 104 e104))) (tbNode 107 (tbNode 106 (tbLeaf 105 e105) (tbLeaf 106 e106)) (tbNode 108 (tbLeaf 107 e107) (tbLeaf 108 e108)))) (tbNode 113 (tbNode 111 (tbNode 110 (tbLeaf 109 e109) (tbLeaf 110 e110)) (tbNode 112 (tbLeaf 111 e111) (tbLeaf 112 e112))) (tbNode 115 (tbNode 114 (tbLeaf 113 e113) (tbLeaf 114 e114)) (tbNode 116 (tbLeaf 115 e115) (tbLeaf 116 e116))))) (tbNode 126 (tbNode 121 (tbNode 119 (tbNode 118 (tbLeaf 117 e117) (tbLeaf 118 e118)) (tbNode 120 (tbLeaf 119 e119) (tbLeaf 120 e120))) (tbNode 124 (tbNode 123 (tbLeaf 121 e121) (tbLeaf 123 e123)) (tbNode 125 (tbLeaf 124 e124) (tbLeaf 125 e125)))) (tbNode 130 (tbNode 128 (tbNode 127 (tbLeaf 126 e126) (tbLeaf 127 e127)) (tbNode 129 (tbLeaf 128 e128) (tbLeaf 129 e129))) (tbNode 132 (tbNode 131 (tbLeaf 130 e130) (tbLeaf 131 e131)) (tbNode 133 (tbLeaf 132 e132) (tbLeaf 133 e133)))))) (tbNode 150 (tbNode 142 (tbNode 138 (tbNode 136 (tbNode 135 (tbLeaf 134 e134) (tbLeaf 135 e135)) (tbNode 137 (tbLeaf 136 e136) (tbLeaf 137 e137))) (tbNode 140 (tbNode 139 (tbLeaf 138 e138) (tbLeaf 139 e139)) (tbNode 141 (tbLeaf 140 e140) (tbLeaf 141 e141)))) (tbNode 146 (tbNode 144 (tbNode 143 (tbLeaf 142 e142) (tbLeaf 143 e143)) (tbNode 145 (tbLeaf 144 e144) (tbLeaf 145 e145))) (tbNode 148 (tbNode 147 (tbLeaf 146 e146) (tbLeaf 147 e147)) (tbNode 149 (tbLeaf 148 e148) (tbLeaf 149 e149))))) (tbNode 158 (tbNode 154 (tbNode 152 (tbNode 151 (tbLeaf 150 e150) (tbLeaf 151 e151)) (tbNode 153 (tbLeaf 152 e152) (tbLeaf 153 e153))) (tbNode 156 (tbNode 155 (tbLeaf 154 e154) (tbLeaf 155 e155)) (tbNode 157 (tbLeaf 156 e156) (tbLeaf 157 e157)))) (tbNode 162 (tbNode 160 (tbNode 159 (tbLeaf 158 e158) (tbLeaf 159 e159)) (tbNode 161 (tbLeaf 160 e160) (tbLeaf 161 e161))) (tbNode 164 (tbNode 163 (tbLeaf 162 e162) (tbLeaf 163 e163)) (tbNode 165 (tbLeaf 164 e164) (tbLeaf 165 e165)))))))
theorem tb_ok : TbOk Tryz.prog Aw tb := node_ok (node_ok (node_ok (node_ok (node_ok (node_ok (leaf_ok e8_ok) (node_ok (leaf_ok e9_ok) (leaf_ok e11_ok))) (node_ok (node_ok (leaf_ok e14_ok) (leaf_ok e17_ok)) (node_ok (leaf_ok e19_ok) (leaf_ok e21_ok)))) (node_ok (node_ok (node_ok (leaf_ok e29_ok) (leaf_ok e30_ok)) (node_ok (leaf_ok e31_ok) (leaf_ok e32_ok))) (node_ok (node_ok (leaf_ok e33_ok) (leaf_ok e34_ok)) (node_ok (leaf_ok e35_ok) (leaf_ok e36_ok))))) (node_ok (node_ok (node_ok (node_ok (leaf_ok e37_ok) (leaf_ok e38_ok)) (node_ok (leaf_ok e39_ok) (leaf_ok e43_ok))) (node_ok (node_ok (leaf_ok e44_ok) (leaf_ok e45_ok)) (node_ok (leaf_ok e46_ok) (leaf_ok e47_ok)))) (node_ok (node_ok (node_ok (leaf_ok e55_ok) (leaf_ok e56_ok)) (node_ok (leaf_ok e57_ok) (leaf_ok e58_ok))) (node_ok (node_ok (leaf_ok e59_ok) (leaf_ok e60_ok)) (node_ok (leaf_ok e61_ok) (leaf_ok e62_ok)))))) (node_ok (node_ok (node_ok (node_ok (node_ok (leaf_ok e63_ok) (leaf_ok e67_ok)) (node_ok (leaf_ok e68_ok) (leaf_ok e69_ok))) (node_ok (node_ok (leaf_ok e71_ok) (leaf_ok e72_ok)) (node_ok (leaf_ok e74_ok) (leaf_ok e75_ok)))) (node_ok (node_ok (node_ok (leaf_ok e76_ok) (leaf_ok e77_ok)) (node_ok (leaf_ok e78_ok) (leaf_ok e79_ok))) (node_ok (node_ok (leaf_ok e80_ok) (leaf_ok e81_ok)) (node_ok (leaf_ok e82_ok) (leaf_ok e83_ok))))) (node_ok (node_ok (node_ok (node_ok (leaf_ok e84_ok) (leaf_ok e85_ok)) (node_ok (leaf_ok e87_ok) (leaf_ok e88_ok))) (node_ok (node_ok (leaf_ok e89_ok) (leaf_ok e90_ok)) (node_ok (leaf_ok e91_ok) (leaf_ok e92_ok)))) (node_ok (node_ok (node_ok (leaf_ok e93_ok) (leaf_ok e95_ok)) (node_ok (leaf_ok e96_ok) (leaf_ok e97_ok))) (node_ok (node_ok (leaf_ok e98_ok) (leaf_ok e99_ok)) (node_ok (leaf_ok e100_ok) (leaf_ok e101_ok))))))) (node_ok (node_ok (node_ok (node_ok (node_ok (leaf_ok e102_ok) (node_ok (leaf_ok e103_ok) (leaf_ok e104_ok))) (node_ok (node_ok (leaf_ok e105_ok) (leaf_ok e106_ok)) (node_ok (leaf_ok e107_ok) (leaf_ok e108_ok)))) (node_ok (node_ok (node_ok (leaf_ok e109_ok) (leaf_ok e110_ok)) (node_ok (leaf_ok e111_ok) (leaf_ok e112_ok))) (node_ok (node_ok (leaf_ok e113_ok) (leaf_ok e114_ok)) (node_ok (leaf_ok e115_ok) (leaf_ok e116_ok))))) (node_ok (node_ok (node_ok (node_ok (leaf_ok e117_ok) (leaf_ok e118_ok)) (node_ok (leaf_ok e119_ok) (leaf_ok e120_ok))) (node_ok (node_ok (leaf_ok e121_ok) (leaf_ok e123_ok)) (node_ok (leaf_ok e124_ok) (leaf_ok e125_ok)))) (node_ok (node_ok (node_ok (leaf_ok e126_ok) (leaf_ok e127_ok)) (node_ok (leaf_ok e128_ok) (leaf_ok e129_ok))) (node_ok (node_ok (leaf_ok e130_ok) (leaf_ok e131_ok)) (node_ok (leaf_ok e132_ok) (leaf_ok e133_ok)))))) (node_ok (node_ok (node_ok (node_ok (node_ok (leaf_ok e134_ok) (leaf_ok e135_ok)) (node_ok (leaf_ok e136_ok) (leaf_ok e137_ok))) (node_ok (node_ok (leaf_ok e138_ok) (leaf_ok e139_ok)) (node_ok (leaf_ok e140_ok) (leaf_ok e141_ok)))) (node_ok (node_ok (node_ok (leaf_ok e142_ok) (leaf_ok e143_ok)) (node_ok (leaf_ok e144_ok) (leaf_ok e145_ok))) (node_ok (node_ok (leaf_ok e146_ok) (leaf_ok e147_ok)) (node_ok (leaf_ok e148_ok) (leaf_ok e149_ok))))) (node_ok (node_ok (node_ok (node_ok (leaf_ok e150_ok) (leaf_ok e151_ok)) (node_ok (leaf_ok e152_ok) (leaf_ok e153_ok))) (node_ok (node_ok (leaf_ok e154_ok) (leaf_ok e155_ok)) (node_ok (leaf_ok e156_ok) (leaf_ok e157_ok)))) (node_ok (node_ok (node_ok (leaf_ok e158_ok) (leaf_ok e159_ok)) (node_ok (leaf_ok e160_ok) (leaf_ok e161_ok))) (node_ok (node_ok (leaf_ok e162_ok) (leaf_ok e163_ok)) (node_ok (leaf_ok e164_ok) (leaf_ok e165_ok)))))))
end Go.Proofs.YtdbmfggipeoklaaGreatDoor.headVoid
