import Derived.Test.YtmhmbmogodofeaaDoorSD
/- 'tidepolelaw08.works' answers true, by running it; the tables hold what the program's text lays. -/
set_option autoImplicit false
set_option maxRecDepth 100000
namespace Go.Proofs.YtmhmbmogodofeaaDoor.S
open Go.FS Go.RowKit
theorem namedB : (Tryd.prog.funcs.toList.all fun fn => !(fn.body.isSome && fn.name == "runtime.NumGoroutine")) = true := by kernel_rfl
theorem named : Named Tryd.prog := by
  intro f fn hf hb
  have := List.all_eq_true.1 namedB fn (List.mem_of_getElem? (by simpa using hf))
  rw [hb] at this
  simpa using this
theorem follows : Tryd.prog.follows .mixedOrders = true := by kernel_rfl
def ints (k : IntKind) (l : List Int) : Array Value := (l.map fun n => Value.int k n).toArray
def classes : Array Value := ints .i64 [0, 1, 0, 1, 1, 7, 2, 1, 12, 3, 1, 20, 4, 0, 48]
def bruijn : Array Value := ints .u8 [0, 1, 56, 2, 57, 49, 28, 3, 61, 58, 42, 50, 38, 29, 17, 4, 62, 47, 59, 36, 45, 43, 51, 22, 53, 39, 33, 30, 24, 18, 12, 5, 63, 55, 48, 27, 60, 41, 37, 16, 46, 35, 44, 21, 52, 32, 23, 11, 54, 26, 40, 15, 34, 20, 31, 10, 25, 14, 19, 9, 13, 8, 7, 6]
/-- What the tables hold. -/
def tabs : Nat → Option (Array Value)
  | 0 => some classes
  | 1 => some bruijn
  | _ => none
abbrev TH : HeapI := TrG tabs
theorem tabs_flat : ∀ g cs, TH.glob g = some cs → cs.toList.all flat1 = true := by
  intro g cs h
  match g, h with
  | 0, h => injection h with h; subst h; exact (show _ = true by kernel_rfl)
  | 1, h => injection h with h; subst h; exact (show _ = true by kernel_rfl)
  | n + 2, h => cases h
noncomputable def Aw : Ann TH := { i := noI, N := 1000000, row := fun f => Nat.beq f 99, cut := fun _ => none }
noncomputable def e9 : Run TH := fun C args s => match args with
  | [a0, a1] => f9 (qOps Tryd.prog) C 1000000 a0 a1 s
  | l => bodyD Tryd.prog false C 1000000 9 Tryd.f9 l s
theorem e9_ok : RunOk Tryd.prog Aw 9 e9 := good_of (fn := Tryd.f9) rfl rfl (by kernel_rfl) fun C args s => by
  unfold e9
  split
  · rw [qOps_eq]; exact (f9_r C 1000000 _ _ s).symm
  · rfl
noncomputable def e13 : Run TH := fun C args s => match args with
  | [] => f13 (qOps Tryd.prog) C 1000000 s
  | l => bodyD Tryd.prog false C 1000000 13 Tryd.f13 l s
theorem e13_ok : RunOk Tryd.prog Aw 13 e13 := good_of (fn := Tryd.f13) rfl rfl (by kernel_rfl) fun C args s => by
  unfold e13
  split
  · rw [qOps_eq]; exact (f13_r C 1000000 s).symm
  · rfl
noncomputable def e14 : Run TH := fun C args s => match args with
  | [a0] => f14 (qOps Tryd.prog) C 1000000 a0 s
  | l => bodyD Tryd.prog false C 1000000 14 Tryd.f14 l s
theorem e14_ok : RunOk Tryd.prog Aw 14 e14 := good_of (fn := Tryd.f14) rfl rfl (by kernel_rfl) fun C args s => by
  unfold e14
  split
  · rw [qOps_eq]; exact (f14_r C 1000000 _ s).symm
  · rfl
noncomputable def e17 : Run TH := fun C args s => match args with
  | [] => f17 (qOps Tryd.prog) C 1000000 s
  | l => bodyD Tryd.prog false C 1000000 17 Tryd.f17 l s
theorem e17_ok : RunOk Tryd.prog Aw 17 e17 := good_of (fn := Tryd.f17) rfl rfl (by kernel_rfl) fun C args s => by
  unfold e17
  split
  · rw [qOps_eq]; exact (f17_r C 1000000 s).symm
  · rfl
noncomputable def e18 : Run TH := fun C args s => match args with
  | [a0, a1] => f18 (qOps Tryd.prog) C 1000000 a0 a1 s
  | l => bodyD Tryd.prog false C 1000000 18 Tryd.f18 l s
theorem e18_ok : RunOk Tryd.prog Aw 18 e18 := good_of (fn := Tryd.f18) rfl rfl (by kernel_rfl) fun C args s => by
  unfold e18
  split
  · rw [qOps_eq]; exact (f18_r C 1000000 _ _ s).symm
  · rfl
noncomputable def e20 : Run TH := fun C args s => match args with
  | [a0] => f20 (qOps Tryd.prog) C 1000000 a0 s
  | l => bodyD Tryd.prog false C 1000000 20 Tryd.f20 l s
theorem e20_ok : RunOk Tryd.prog Aw 20 e20 := good_of (fn := Tryd.f20) rfl rfl (by kernel_rfl) fun C args s => by
  unfold e20
  split
  · rw [qOps_eq]; exact (f20_r C 1000000 _ s).symm
  · rfl
noncomputable def e27 : Run TH := fun C args s => match args with
  | [a0, a1] => f27 (qOps Tryd.prog) C 1000000 a0 a1 s
  | l => bodyD Tryd.prog false C 1000000 27 Tryd.f27 l s
theorem e27_ok : RunOk Tryd.prog Aw 27 e27 := good_of (fn := Tryd.f27) rfl rfl (by kernel_rfl) fun C args s => by
  unfold e27
  split
  · rw [qOps_eq]; exact (f27_r C 1000000 _ _ s).symm
  · rfl
noncomputable def e28 : Run TH := fun C args s => match args with
  | [a0] => f28 (qOps Tryd.prog) C 1000000 a0 s
  | l => bodyD Tryd.prog false C 1000000 28 Tryd.f28 l s
theorem e28_ok : RunOk Tryd.prog Aw 28 e28 := good_of (fn := Tryd.f28) rfl rfl (by kernel_rfl) fun C args s => by
  unfold e28
  split
  · rw [qOps_eq]; exact (f28_r C 1000000 _ s).symm
  · rfl
noncomputable def e29 : Run TH := fun C args s => match args with
  | [a0] => f29 (qOps Tryd.prog) C 1000000 a0 s
  | l => bodyD Tryd.prog false C 1000000 29 Tryd.f29 l s
theorem e29_ok : RunOk Tryd.prog Aw 29 e29 := good_of (fn := Tryd.f29) rfl rfl (by kernel_rfl) fun C args s => by
  unfold e29
  split
  · rw [qOps_eq]; exact (f29_r C 1000000 _ s).symm
  · rfl
noncomputable def e30 : Run TH := fun C args s => match args with
  | [a0, a1] => f30 (qOps Tryd.prog) C 1000000 a0 a1 s
  | l => bodyD Tryd.prog false C 1000000 30 Tryd.f30 l s
theorem e30_ok : RunOk Tryd.prog Aw 30 e30 := good_of (fn := Tryd.f30) rfl rfl (by kernel_rfl) fun C args s => by
  unfold e30
  split
  · rw [qOps_eq]; exact (f30_r C 1000000 _ _ s).symm
  · rfl
noncomputable def e31 : Run TH := fun C args s => match args with
  | [a0] => f31 (qOps Tryd.prog) C 1000000 a0 s
  | l => bodyD Tryd.prog false C 1000000 31 Tryd.f31 l s
theorem e31_ok : RunOk Tryd.prog Aw 31 e31 := good_of (fn := Tryd.f31) rfl rfl (by kernel_rfl) fun C args s => by
  unfold e31
  split
  · rw [qOps_eq]; exact (f31_r C 1000000 _ s).symm
  · rfl
noncomputable def e44 : Run TH := fun C args s => match args with
  | [] => f44 (qOps Tryd.prog) C 1000000 s
  | l => bodyD Tryd.prog false C 1000000 44 Tryd.f44 l s
theorem e44_ok : RunOk Tryd.prog Aw 44 e44 := good_of (fn := Tryd.f44) rfl rfl (by kernel_rfl) fun C args s => by
  unfold e44
  split
  · rw [qOps_eq]; exact (f44_r C 1000000 s).symm
  · rfl
noncomputable def e45 : Run TH := fun C args s => match args with
  | [] => f45 (qOps Tryd.prog) C 1000000 s
  | l => bodyD Tryd.prog false C 1000000 45 Tryd.f45 l s
theorem e45_ok : RunOk Tryd.prog Aw 45 e45 := good_of (fn := Tryd.f45) rfl rfl (by kernel_rfl) fun C args s => by
  unfold e45
  split
  · rw [qOps_eq]; exact (f45_r C 1000000 s).symm
  · rfl
noncomputable def e46 : Run TH := fun C args s => match args with
  | [a0] => f46 (qOps Tryd.prog) C 1000000 a0 s
  | l => bodyD Tryd.prog false C 1000000 46 Tryd.f46 l s
theorem e46_ok : RunOk Tryd.prog Aw 46 e46 := good_of (fn := Tryd.f46) rfl rfl (by kernel_rfl) fun C args s => by
  unfold e46
  split
  · rw [qOps_eq]; exact (f46_r C 1000000 _ s).symm
  · rfl
noncomputable def e47 : Run TH := fun C args s => match args with
  | [a0, a1] => f47 (qOps Tryd.prog) C 1000000 a0 a1 s
  | l => bodyD Tryd.prog false C 1000000 47 Tryd.f47 l s
theorem e47_ok : RunOk Tryd.prog Aw 47 e47 := good_of (fn := Tryd.f47) rfl rfl (by kernel_rfl) fun C args s => by
  unfold e47
  split
  · rw [qOps_eq]; exact (f47_r C 1000000 _ _ s).symm
  · rfl
noncomputable def e48 : Run TH := fun C args s => match args with
  | [a0, a1, a2] => f48 (qOps Tryd.prog) C 1000000 a0 a1 a2 s
  | l => bodyD Tryd.prog false C 1000000 48 Tryd.f48 l s
theorem e48_ok : RunOk Tryd.prog Aw 48 e48 := good_of (fn := Tryd.f48) rfl rfl (by kernel_rfl) fun C args s => by
  unfold e48
  split
  · rw [qOps_eq]; exact (f48_r C 1000000 _ _ _ s).symm
  · rfl
noncomputable def e49 : Run TH := fun C args s => match args with
  | [a0, a1, a2] => f49 (qOps Tryd.prog) C 1000000 a0 a1 a2 s
  | l => bodyD Tryd.prog false C 1000000 49 Tryd.f49 l s
theorem e49_ok : RunOk Tryd.prog Aw 49 e49 := good_of (fn := Tryd.f49) rfl rfl (by kernel_rfl) fun C args s => by
  unfold e49
  split
  · rw [qOps_eq]; exact (f49_r C 1000000 _ _ _ s).symm
  · rfl
noncomputable def e50 : Run TH := fun C args s => match args with
  | [a0, a1] => f50 (qOps Tryd.prog) C 1000000 a0 a1 s
  | l => bodyD Tryd.prog false C 1000000 50 Tryd.f50 l s
theorem e50_ok : RunOk Tryd.prog Aw 50 e50 := good_of (fn := Tryd.f50) rfl rfl (by kernel_rfl) fun C args s => by
  unfold e50
  split
  · rw [qOps_eq]; exact (f50_r C 1000000 _ _ s).symm
  · rfl
noncomputable def e51 : Run TH := fun C args s => match args with
  | [a0, a1] => f51 (qOps Tryd.prog) C 1000000 a0 a1 s
  | l => bodyD Tryd.prog false C 1000000 51 Tryd.f51 l s
theorem e51_ok : RunOk Tryd.prog Aw 51 e51 := good_of (fn := Tryd.f51) rfl rfl (by kernel_rfl) fun C args s => by
  unfold e51
  split
  · rw [qOps_eq]; exact (f51_r C 1000000 _ _ s).symm
  · rfl
noncomputable def e52 : Run TH := fun C args s => match args with
  | [a0] => f52 (qOps Tryd.prog) C 1000000 a0 s
  | l => bodyD Tryd.prog false C 1000000 52 Tryd.f52 l s
theorem e52_ok : RunOk Tryd.prog Aw 52 e52 := good_of (fn := Tryd.f52) rfl rfl (by kernel_rfl) fun C args s => by
  unfold e52
  split
  · rw [qOps_eq]; exact (f52_r C 1000000 _ s).symm
  · rfl
noncomputable def e53 : Run TH := fun C args s => match args with
  | [a0] => f53 (qOps Tryd.prog) C 1000000 a0 s
  | l => bodyD Tryd.prog false C 1000000 53 Tryd.f53 l s
theorem e53_ok : RunOk Tryd.prog Aw 53 e53 := good_of (fn := Tryd.f53) rfl rfl (by kernel_rfl) fun C args s => by
  unfold e53
  split
  · rw [qOps_eq]; exact (f53_r C 1000000 _ s).symm
  · rfl
noncomputable def e57 : Run TH := fun C args s => match args with
  | [a0, a1] => f57 (qOps Tryd.prog) C 1000000 a0 a1 s
  | l => bodyD Tryd.prog false C 1000000 57 Tryd.f57 l s
theorem e57_ok : RunOk Tryd.prog Aw 57 e57 := good_of (fn := Tryd.f57) rfl rfl (by kernel_rfl) fun C args s => by
  unfold e57
  split
  · rw [qOps_eq]; exact (f57_r C 1000000 _ _ s).symm
  · rfl
noncomputable def e58 : Run TH := fun C args s => match args with
  | [a0] => f58 (qOps Tryd.prog) C 1000000 a0 s
  | l => bodyD Tryd.prog false C 1000000 58 Tryd.f58 l s
theorem e58_ok : RunOk Tryd.prog Aw 58 e58 := good_of (fn := Tryd.f58) rfl rfl (by kernel_rfl) fun C args s => by
  unfold e58
  split
  · rw [qOps_eq]; exact (f58_r C 1000000 _ s).symm
  · rfl
noncomputable def e59 : Run TH := fun C args s => match args with
  | [a0, a1] => f59 (qOps Tryd.prog) C 1000000 a0 a1 s
  | l => bodyD Tryd.prog false C 1000000 59 Tryd.f59 l s
theorem e59_ok : RunOk Tryd.prog Aw 59 e59 := good_of (fn := Tryd.f59) rfl rfl (by kernel_rfl) fun C args s => by
  unfold e59
  split
  · rw [qOps_eq]; exact (f59_r C 1000000 _ _ s).symm
  · rfl
noncomputable def e60 : Run TH := fun C args s => match args with
  | [a0, a1, a2] => f60 (qOps Tryd.prog) C 1000000 a0 a1 a2 s
  | l => bodyD Tryd.prog false C 1000000 60 Tryd.f60 l s
theorem e60_ok : RunOk Tryd.prog Aw 60 e60 := good_of (fn := Tryd.f60) rfl rfl (by kernel_rfl) fun C args s => by
  unfold e60
  split
  · rw [qOps_eq]; exact (f60_r C 1000000 _ _ _ s).symm
  · rfl
noncomputable def e61 : Run TH := fun C args s => match args with
  | [a0, a1] => f61 (qOps Tryd.prog) C 1000000 a0 a1 s
  | l => bodyD Tryd.prog false C 1000000 61 Tryd.f61 l s
theorem e61_ok : RunOk Tryd.prog Aw 61 e61 := good_of (fn := Tryd.f61) rfl rfl (by kernel_rfl) fun C args s => by
  unfold e61
  split
  · rw [qOps_eq]; exact (f61_r C 1000000 _ _ s).symm
  · rfl
noncomputable def e62 : Run TH := fun C args s => match args with
  | [a0, a1] => f62 (qOps Tryd.prog) C 1000000 a0 a1 s
  | l => bodyD Tryd.prog false C 1000000 62 Tryd.f62 l s
theorem e62_ok : RunOk Tryd.prog Aw 62 e62 := good_of (fn := Tryd.f62) rfl rfl (by kernel_rfl) fun C args s => by
  unfold e62
  split
  · rw [qOps_eq]; exact (f62_r C 1000000 _ _ s).symm
  · rfl
noncomputable def e63 : Run TH := fun C args s => match args with
  | [a0] => f63 (qOps Tryd.prog) C 1000000 a0 s
  | l => bodyD Tryd.prog false C 1000000 63 Tryd.f63 l s
theorem e63_ok : RunOk Tryd.prog Aw 63 e63 := good_of (fn := Tryd.f63) rfl rfl (by kernel_rfl) fun C args s => by
  unfold e63
  split
  · rw [qOps_eq]; exact (f63_r C 1000000 _ s).symm
  · rfl
noncomputable def e64 : Run TH := fun C args s => match args with
  | [a0, a1] => f64 (qOps Tryd.prog) C 1000000 a0 a1 s
  | l => bodyD Tryd.prog false C 1000000 64 Tryd.f64 l s
theorem e64_ok : RunOk Tryd.prog Aw 64 e64 := good_of (fn := Tryd.f64) rfl rfl (by kernel_rfl) fun C args s => by
  unfold e64
  split
  · rw [qOps_eq]; exact (f64_r C 1000000 _ _ s).symm
  · rfl
noncomputable def e73 : Run TH := fun C args s => match args with
  | [a0, a1] => f73 (qOps Tryd.prog) C 1000000 a0 a1 s
  | l => bodyD Tryd.prog false C 1000000 73 Tryd.f73 l s
theorem e73_ok : RunOk Tryd.prog Aw 73 e73 := good_of (fn := Tryd.f73) rfl rfl (by kernel_rfl) fun C args s => by
  unfold e73
  split
  · rw [qOps_eq]; exact (f73_r C 1000000 _ _ s).symm
  · rfl
noncomputable def e74 : Run TH := fun C args s => match args with
  | [a0] => f74 (qOps Tryd.prog) C 1000000 a0 s
  | l => bodyD Tryd.prog false C 1000000 74 Tryd.f74 l s
theorem e74_ok : RunOk Tryd.prog Aw 74 e74 := good_of (fn := Tryd.f74) rfl rfl (by kernel_rfl) fun C args s => by
  unfold e74
  split
  · rw [qOps_eq]; exact (f74_r C 1000000 _ s).symm
  · rfl
noncomputable def e75 : Run TH := fun C args s => match args with
  | [a0, a1] => f75 (qOps Tryd.prog) C 1000000 a0 a1 s
  | l => bodyD Tryd.prog false C 1000000 75 Tryd.f75 l s
theorem e75_ok : RunOk Tryd.prog Aw 75 e75 := good_of (fn := Tryd.f75) rfl rfl (by kernel_rfl) fun C args s => by
  unfold e75
  split
  · rw [qOps_eq]; exact (f75_r C 1000000 _ _ s).symm
  · rfl
noncomputable def e76 : Run TH := fun C args s => match args with
  | [a0, a1, a2] => f76 (qOps Tryd.prog) C 1000000 a0 a1 a2 s
  | l => bodyD Tryd.prog false C 1000000 76 Tryd.f76 l s
theorem e76_ok : RunOk Tryd.prog Aw 76 e76 := good_of (fn := Tryd.f76) rfl rfl (by kernel_rfl) fun C args s => by
  unfold e76
  split
  · rw [qOps_eq]; exact (f76_r C 1000000 _ _ _ s).symm
  · rfl
noncomputable def e77 : Run TH := fun C args s => match args with
  | [a0] => f77 (qOps Tryd.prog) C 1000000 a0 s
  | l => bodyD Tryd.prog false C 1000000 77 Tryd.f77 l s
theorem e77_ok : RunOk Tryd.prog Aw 77 e77 := good_of (fn := Tryd.f77) rfl rfl (by kernel_rfl) fun C args s => by
  unfold e77
  split
  · rw [qOps_eq]; exact (f77_r C 1000000 _ s).symm
  · rfl
noncomputable def e78 : Run TH := fun C args s => match args with
  | [a0] => f78 (qOps Tryd.prog) C 1000000 a0 s
  | l => bodyD Tryd.prog false C 1000000 78 Tryd.f78 l s
theorem e78_ok : RunOk Tryd.prog Aw 78 e78 := good_of (fn := Tryd.f78) rfl rfl (by kernel_rfl) fun C args s => by
  unfold e78
  split
  · rw [qOps_eq]; exact (f78_r C 1000000 _ s).symm
  · rfl
noncomputable def e79 : Run TH := fun C args s => match args with
  | [a0] => f79 (qOps Tryd.prog) C 1000000 a0 s
  | l => bodyD Tryd.prog false C 1000000 79 Tryd.f79 l s
theorem e79_ok : RunOk Tryd.prog Aw 79 e79 := good_of (fn := Tryd.f79) rfl rfl (by kernel_rfl) fun C args s => by
  unfold e79
  split
  · rw [qOps_eq]; exact (f79_r C 1000000 _ s).symm
  · rfl
noncomputable def e80 : Run TH := fun C args s => match args with
  | [a0, a1] => f80 (qOps Tryd.prog) C 1000000 a0 a1 s
  | l => bodyD Tryd.prog false C 1000000 80 Tryd.f80 l s
theorem e80_ok : RunOk Tryd.prog Aw 80 e80 := good_of (fn := Tryd.f80) rfl rfl (by kernel_rfl) fun C args s => by
  unfold e80
  split
  · rw [qOps_eq]; exact (f80_r C 1000000 _ _ s).symm
  · rfl
noncomputable def e81 : Run TH := fun C args s => match args with
  | [a0, a1] => f81 (qOps Tryd.prog) C 1000000 a0 a1 s
  | l => bodyD Tryd.prog false C 1000000 81 Tryd.f81 l s
theorem e81_ok : RunOk Tryd.prog Aw 81 e81 := good_of (fn := Tryd.f81) rfl rfl (by kernel_rfl) fun C args s => by
  unfold e81
  split
  · rw [qOps_eq]; exact (f81_r C 1000000 _ _ s).symm
  · rfl
noncomputable def e82 : Run TH := fun C args s => match args with
  | [a0] => f82 (qOps Tryd.prog) C 1000000 a0 s
  | l => bodyD Tryd.prog false C 1000000 82 Tryd.f82 l s
theorem e82_ok : RunOk Tryd.prog Aw 82 e82 := good_of (fn := Tryd.f82) rfl rfl (by kernel_rfl) fun C args s => by
  unfold e82
  split
  · rw [qOps_eq]; exact (f82_r C 1000000 _ s).symm
  · rfl
noncomputable def e83 : Run TH := fun C args s => match args with
  | [a0] => f83 (qOps Tryd.prog) C 1000000 a0 s
  | l => bodyD Tryd.prog false C 1000000 83 Tryd.f83 l s
theorem e83_ok : RunOk Tryd.prog Aw 83 e83 := good_of (fn := Tryd.f83) rfl rfl (by kernel_rfl) fun C args s => by
  unfold e83
  split
  · rw [qOps_eq]; exact (f83_r C 1000000 _ s).symm
  · rfl
noncomputable def e84 : Run TH := fun C args s => match args with
  | [a0, a1, a2] => f84 (qOps Tryd.prog) C 1000000 a0 a1 a2 s
  | l => bodyD Tryd.prog false C 1000000 84 Tryd.f84 l s
theorem e84_ok : RunOk Tryd.prog Aw 84 e84 := good_of (fn := Tryd.f84) rfl rfl (by kernel_rfl) fun C args s => by
  unfold e84
  split
  · rw [qOps_eq]; exact (f84_r C 1000000 _ _ _ s).symm
  · rfl
noncomputable def e85 : Run TH := fun C args s => match args with
  | [a0, a1, a2] => f85 (qOps Tryd.prog) C 1000000 a0 a1 a2 s
  | l => bodyD Tryd.prog false C 1000000 85 Tryd.f85 l s
theorem e85_ok : RunOk Tryd.prog Aw 85 e85 := good_of (fn := Tryd.f85) rfl rfl (by kernel_rfl) fun C args s => by
  unfold e85
  split
  · rw [qOps_eq]; exact (f85_r C 1000000 _ _ _ s).symm
  · rfl
noncomputable def e86 : Run TH := fun C args s => match args with
  | [a0] => f86 (qOps Tryd.prog) C 1000000 a0 s
  | l => bodyD Tryd.prog false C 1000000 86 Tryd.f86 l s
theorem e86_ok : RunOk Tryd.prog Aw 86 e86 := good_of (fn := Tryd.f86) rfl rfl (by kernel_rfl) fun C args s => by
  unfold e86
  split
  · rw [qOps_eq]; exact (f86_r C 1000000 _ s).symm
  · rfl
noncomputable def e87 : Run TH := fun C args s => match args with
  | [a0] => f87 (qOps Tryd.prog) C 1000000 a0 s
  | l => bodyD Tryd.prog false C 1000000 87 Tryd.f87 l s
theorem e87_ok : RunOk Tryd.prog Aw 87 e87 := good_of (fn := Tryd.f87) rfl rfl (by kernel_rfl) fun C args s => by
  unfold e87
  split
  · rw [qOps_eq]; exact (f87_r C 1000000 _ s).symm
  · rfl
noncomputable def e88 : Run TH := fun C args s => match args with
  | [a0, a1] => f88 (qOps Tryd.prog) C 1000000 a0 a1 s
  | l => bodyD Tryd.prog false C 1000000 88 Tryd.f88 l s
theorem e88_ok : RunOk Tryd.prog Aw 88 e88 := good_of (fn := Tryd.f88) rfl rfl (by kernel_rfl) fun C args s => by
  unfold e88
  split
  · rw [qOps_eq]; exact (f88_r C 1000000 _ _ s).symm
  · rfl
noncomputable def e89 : Run TH := fun C args s => match args with
  | [a0] => f89 (qOps Tryd.prog) C 1000000 a0 s
  | l => bodyD Tryd.prog false C 1000000 89 Tryd.f89 l s
theorem e89_ok : RunOk Tryd.prog Aw 89 e89 := good_of (fn := Tryd.f89) rfl rfl (by kernel_rfl) fun C args s => by
  unfold e89
  split
  · rw [qOps_eq]; exact (f89_r C 1000000 _ s).symm
  · rfl
noncomputable def e92 : Run TH := fun C args s => match args with
  | [a0] => f92 (qOps Tryd.prog) C 1000000 a0 s
  | l => bodyD Tryd.prog false C 1000000 92 Tryd.f92 l s
theorem e92_ok : RunOk Tryd.prog Aw 92 e92 := good_of (fn := Tryd.f92) rfl rfl (by kernel_rfl) fun C args s => by
  unfold e92
  split
  · rw [qOps_eq]; exact (f92_r C 1000000 _ s).symm
  · rfl
noncomputable def e93 : Run TH := fun C args s => match args with
  | [a0] => f93 (qOps Tryd.prog) C 1000000 a0 s
  | l => bodyD Tryd.prog false C 1000000 93 Tryd.f93 l s
theorem e93_ok : RunOk Tryd.prog Aw 93 e93 := good_of (fn := Tryd.f93) rfl rfl (by kernel_rfl) fun C args s => by
  unfold e93
  split
  · rw [qOps_eq]; exact (f93_r C 1000000 _ s).symm
  · rfl
noncomputable def e94 : Run TH := fun C args s => match args with
  | [a0, a1] => f94 (qOps Tryd.prog) C 1000000 a0 a1 s
  | l => bodyD Tryd.prog false C 1000000 94 Tryd.f94 l s
theorem e94_ok : RunOk Tryd.prog Aw 94 e94 := good_of (fn := Tryd.f94) rfl rfl (by kernel_rfl) fun C args s => by
  unfold e94
  split
  · rw [qOps_eq]; exact (f94_r C 1000000 _ _ s).symm
  · rfl
noncomputable def e95 : Run TH := fun C args s => match args with
  | [a0] => f95 (qOps Tryd.prog) C 1000000 a0 s
  | l => bodyD Tryd.prog false C 1000000 95 Tryd.f95 l s
theorem e95_ok : RunOk Tryd.prog Aw 95 e95 := good_of (fn := Tryd.f95) rfl rfl (by kernel_rfl) fun C args s => by
  unfold e95
  split
  · rw [qOps_eq]; exact (f95_r C 1000000 _ s).symm
  · rfl
noncomputable def e96 : Run TH := fun C args s => match args with
  | [a0, a1] => f96 (qOps Tryd.prog) C 1000000 a0 a1 s
  | l => bodyD Tryd.prog false C 1000000 96 Tryd.f96 l s
theorem e96_ok : RunOk Tryd.prog Aw 96 e96 := good_of (fn := Tryd.f96) rfl rfl (by kernel_rfl) fun C args s => by
  unfold e96
  split
  · rw [qOps_eq]; exact (f96_r C 1000000 _ _ s).symm
  · rfl
noncomputable def e98 : Run TH := fun C args s => match args with
  | [a0, a1] => f98 (qOps Tryd.prog) C 1000000 a0 a1 s
  | l => bodyD Tryd.prog false C 1000000 98 Tryd.f98 l s
theorem e98_ok : RunOk Tryd.prog Aw 98 e98 := good_of (fn := Tryd.f98) rfl rfl (by kernel_rfl) fun C args s => by
  unfold e98
  split
  · rw [qOps_eq]; exact (f98_r C 1000000 _ _ s).symm
  · rfl
noncomputable def e99 : Run TH := fun C args s => match args with
  | [a0, a1, a2] => f99 (qOps Tryd.prog) C 1000000 a0 a1 a2 s
  | l => bodyD Tryd.prog true C 1000000 99 Tryd.f99 l s
theorem e99_ok : RunOk Tryd.prog Aw 99 e99 := good_of (fn := Tryd.f99) rfl rfl (by kernel_rfl) fun C args s => by
  unfold e99
  split
  · rw [qOps_eq]; exact (f99_r C 1000000 _ _ _ s).symm
  · rfl
noncomputable def e100 : Run TH := fun C args s => match args with
  | [a0, a1] => f100 (qOps Tryd.prog) C 1000000 a0 a1 s
  | l => bodyD Tryd.prog false C 1000000 100 Tryd.f100 l s
theorem e100_ok : RunOk Tryd.prog Aw 100 e100 := good_of (fn := Tryd.f100) rfl rfl (by kernel_rfl) fun C args s => by
  unfold e100
  split
  · rw [qOps_eq]; exact (f100_r C 1000000 _ _ s).symm
  · rfl
noncomputable def e101 : Run TH := fun C args s => match args with
  | [a0] => f101 (qOps Tryd.prog) C 1000000 a0 s
  | l => bodyD Tryd.prog false C 1000000 101 Tryd.f101 l s
theorem e101_ok : RunOk Tryd.prog Aw 101 e101 := good_of (fn := Tryd.f101) rfl rfl (by kernel_rfl) fun C args s => by
  unfold e101
  split
  · rw [qOps_eq]; exact (f101_r C 1000000 _ s).symm
  · rfl
noncomputable def e102 : Run TH := fun C args s => match args with
  | [a0] => f102 (qOps Tryd.prog) C 1000000 a0 s
  | l => bodyD Tryd.prog false C 1000000 102 Tryd.f102 l s
theorem e102_ok : RunOk Tryd.prog Aw 102 e102 := good_of (fn := Tryd.f102) rfl rfl (by kernel_rfl) fun C args s => by
  unfold e102
  split
  · rw [qOps_eq]; exact (f102_r C 1000000 _ s).symm
  · rfl
noncomputable def e103 : Run TH := fun C args s => match args with
  | [a0, a1] => f103 (qOps Tryd.prog) C 1000000 a0 a1 s
  | l => bodyD Tryd.prog false C 1000000 103 Tryd.f103 l s
theorem e103_ok : RunOk Tryd.prog Aw 103 e103 := good_of (fn := Tryd.f103) rfl rfl (by kernel_rfl) fun C args s => by
  unfold e103
  split
  · rw [qOps_eq]; exact (f103_r C 1000000 _ _ s).symm
  · rfl
noncomputable def e105 : Run TH := fun C args s => match args with
  | [a0] => f105 (qOps Tryd.prog) C 1000000 a0 s
  | l => bodyD Tryd.prog false C 1000000 105 Tryd.f105 l s
theorem e105_ok : RunOk Tryd.prog Aw 105 e105 := good_of (fn := Tryd.f105) rfl rfl (by kernel_rfl) fun C args s => by
  unfold e105
  split
  · rw [qOps_eq]; exact (f105_r C 1000000 _ s).symm
  · rfl
noncomputable def e106 : Run TH := fun C args s => match args with
  | [a0, a1] => f106 (qOps Tryd.prog) C 1000000 a0 a1 s
  | l => bodyD Tryd.prog false C 1000000 106 Tryd.f106 l s
theorem e106_ok : RunOk Tryd.prog Aw 106 e106 := good_of (fn := Tryd.f106) rfl rfl (by kernel_rfl) fun C args s => by
  unfold e106
  split
  · rw [qOps_eq]; exact (f106_r C 1000000 _ _ s).symm
  · rfl
noncomputable def e107 : Run TH := fun C args s => match args with
  | [a0, a1] => f107 (qOps Tryd.prog) C 1000000 a0 a1 s
  | l => bodyD Tryd.prog false C 1000000 107 Tryd.f107 l s
theorem e107_ok : RunOk Tryd.prog Aw 107 e107 := good_of (fn := Tryd.f107) rfl rfl (by kernel_rfl) fun C args s => by
  unfold e107
  split
  · rw [qOps_eq]; exact (f107_r C 1000000 _ _ s).symm
  · rfl
noncomputable def e108 : Run TH := fun C args s => match args with
  | [a0, a1] => f108 (qOps Tryd.prog) C 1000000 a0 a1 s
  | l => bodyD Tryd.prog false C 1000000 108 Tryd.f108 l s
theorem e108_ok : RunOk Tryd.prog Aw 108 e108 := good_of (fn := Tryd.f108) rfl rfl (by kernel_rfl) fun C args s => by
  unfold e108
  split
  · rw [qOps_eq]; exact (f108_r C 1000000 _ _ s).symm
  · rfl
noncomputable def e110 : Run TH := fun C args s => match args with
  | [a0] => f110 (qOps Tryd.prog) C 1000000 a0 s
  | l => bodyD Tryd.prog false C 1000000 110 Tryd.f110 l s
theorem e110_ok : RunOk Tryd.prog Aw 110 e110 := good_of (fn := Tryd.f110) rfl rfl (by kernel_rfl) fun C args s => by
  unfold e110
  split
  · rw [qOps_eq]; exact (f110_r C 1000000 _ s).symm
  · rfl
noncomputable def e111 : Run TH := fun C args s => match args with
  | [a0] => f111 (qOps Tryd.prog) C 1000000 a0 s
  | l => bodyD Tryd.prog false C 1000000 111 Tryd.f111 l s
theorem e111_ok : RunOk Tryd.prog Aw 111 e111 := good_of (fn := Tryd.f111) rfl rfl (by kernel_rfl) fun C args s => by
  unfold e111
  split
  · rw [qOps_eq]; exact (f111_r C 1000000 _ s).symm
  · rfl
noncomputable def e112 : Run TH := fun C args s => match args with
  | [a0] => f112 (qOps Tryd.prog) C 1000000 a0 s
  | l => bodyD Tryd.prog false C 1000000 112 Tryd.f112 l s
theorem e112_ok : RunOk Tryd.prog Aw 112 e112 := good_of (fn := Tryd.f112) rfl rfl (by kernel_rfl) fun C args s => by
  unfold e112
  split
  · rw [qOps_eq]; exact (f112_r C 1000000 _ s).symm
  · rfl
noncomputable def e113 : Run TH := fun C args s => match args with
  | [a0, a1] => f113 (qOps Tryd.prog) C 1000000 a0 a1 s
  | l => bodyD Tryd.prog false C 1000000 113 Tryd.f113 l s
theorem e113_ok : RunOk Tryd.prog Aw 113 e113 := good_of (fn := Tryd.f113) rfl rfl (by kernel_rfl) fun C args s => by
  unfold e113
  split
  · rw [qOps_eq]; exact (f113_r C 1000000 _ _ s).symm
  · rfl
noncomputable def tb : Tb TH := tbNode 76 (tbNode 49 (tbNode 29 (tbNode 18 (tbNode 14 (tbNode 13 (tbLeaf 9 e9) (tbLeaf 13 e13)) (tbNode 17 (tbLeaf 14 e14) (tbLeaf 17 e17))) (tbNode 27 (tbNode 20 (tbLeaf 18 e18) (tbLeaf 20 e20)) (tbNode 28 (tbLeaf 27 e27) (tbLeaf 28 e28)))) (tbNode 45 (tbNode 31 (tbNode 30 (tbLeaf 29 e29) (tbLeaf 30 e30)) (tbNode 44 (tbLeaf 31 e31) (tbLeaf 44 e44))) (tbNode 47 (tbNode 46 (tbLeaf 45 e45) (tbLeaf 46 e46)) (tbNode 48 (tbLeaf 47 e47) (tbLeaf 48 e48))))) (tbNode 60 (tbNode 53 (tbNode 51 (tbNode 50 (tbLeaf 49 e49) (tbLeaf 50 e50)) (tbNode 52 (tbLeaf 51 e51) (tbLeaf 52 e52))) (tbNode 58 (tbNode 57 (tbLeaf 53 e53) (tbLeaf 57 e57)) (tbNode 59 (tbLeaf 58 e58) (tbLeaf 59 e59)))) (tbNode 64 (tbNode 62 (tbNode 61 (tbLeaf 60 e60) (tbLeaf 61 e61)) (tbNode 63 (tbLeaf 62 e62) (tbLeaf 63 e63))) (tbNode 74 (tbNode 73 (tbLeaf 64 e64) (tbLeaf 73 e73)) (tbNode 75 (tbLeaf 74 e74) (tbLeaf 75 e75)))))) (tbNode 94 (tbNode 84 (tbNode 80 (tbNode 78 (tbNode 77 (tbLeaf 76 e76) (tbLeaf 77 e77)) (tbNode 79 (tbLeaf 78 e78) (tbLeaf 79 e79))) (tbNode 82 (tbNode 81 (tbLeaf 80 e80) (tbLeaf 81 e81)) (tbNode 83 (tbLeaf 82 e82) (tbLeaf 83 e83)))) (tbNode 88 (tbNode 86 (tbNode 85 (tbLeaf 84 e84) (tbLeaf 85 e85)) (tbNode 87 (tbLeaf 86 e86) (tbLeaf 87 e87))) (tbNode 92 (tbNode 89 (tbLeaf 88 e88) (tbLeaf 89 e89)) (tbNode 93 (tbLeaf 92 e92) (tbLeaf 93 e93))))) (tbNode 103 (tbNode 99 (tbNode 96 (tbNode 95 (tbLeaf 94 e94) (tbLeaf 95 e95)) (tbNode 98 (tbLeaf 96 e96) (tbLeaf 98 e98))) (tbNode 101 (tbNode 100 (tbLeaf 99 e99) (tbLeaf 100 e100)) (tbNode 102 (tbLeaf 101 e101) (tbLeaf 102 e102)))) (tbNode 108 (tbNode 106 (tbNode 105 (tbLeaf 103 e103) (tbLeaf 105 e105)) (tbNode 107 (tbLeaf 106 e106) (tbLeaf 107 e107))) (tbNode 111 (tbNode 110 (tbLeaf 108 e108) (tbLeaf 110 e110)) (tbNode 112 (tbLeaf 111 e111) (tbNode 113 (tbLeaf 112 e112) (tbLeaf 113 e113)))))))
theorem tb_ok : TbOk Tryd.prog Aw tb := node_ok (node_ok (node_ok (node_ok (node_ok (node_ok (leaf_ok e9_ok) (leaf_ok e13_ok)) (node_ok (leaf_ok e14_ok) (leaf_ok e17_ok))) (node_ok (node_ok (leaf_ok e18_ok) (leaf_ok e20_ok)) (node_ok (leaf_ok e27_ok) (leaf_ok e28_ok)))) (node_ok (node_ok (node_ok (leaf_ok e29_ok) (leaf_ok e30_ok)) (node_ok (leaf_ok e31_ok) (leaf_ok e44_ok))) (node_ok (node_ok (leaf_ok e45_ok) (leaf_ok e46_ok)) (node_ok (leaf_ok e47_ok) (leaf_ok e48_ok))))) (node_ok (node_ok (node_ok (node_ok (leaf_ok e49_ok) (leaf_ok e50_ok)) (node_ok (leaf_ok e51_ok) (leaf_ok e52_ok))) (node_ok (node_ok (leaf_ok e53_ok) (leaf_ok e57_ok)) (node_ok (leaf_ok e58_ok) (leaf_ok e59_ok)))) (node_ok (node_ok (node_ok (leaf_ok e60_ok) (leaf_ok e61_ok)) (node_ok (leaf_ok e62_ok) (leaf_ok e63_ok))) (node_ok (node_ok (leaf_ok e64_ok) (leaf_ok e73_ok)) (node_ok (leaf_ok e74_ok) (leaf_ok e75_ok)))))) (node_ok (node_ok (node_ok (node_ok (node_ok (leaf_ok e76_ok) (leaf_ok e77_ok)) (node_ok (leaf_ok e78_ok) (leaf_ok e79_ok))) (node_ok (node_ok (leaf_ok e80_ok) (leaf_ok e81_ok)) (node_ok (leaf_ok e82_ok) (leaf_ok e83_ok)))) (node_ok (node_ok (node_ok (leaf_ok e84_ok) (leaf_ok e85_ok)) (node_ok (leaf_ok e86_ok) (leaf_ok e87_ok))) (node_ok (node_ok (leaf_ok e88_ok) (leaf_ok e89_ok)) (node_ok (leaf_ok e92_ok) (leaf_ok e93_ok))))) (node_ok (node_ok (node_ok (node_ok (leaf_ok e94_ok) (leaf_ok e95_ok)) (node_ok (leaf_ok e96_ok) (leaf_ok e98_ok))) (node_ok (node_ok (leaf_ok e99_ok) (leaf_ok e100_ok)) (node_ok (leaf_ok e101_ok) (leaf_ok e102_ok)))) (node_ok (node_ok (node_ok (leaf_ok e103_ok) (leaf_ok e105_ok)) (node_ok (leaf_ok e106_ok) (leaf_ok e107_ok))) (node_ok (node_ok (leaf_ok e108_ok) (leaf_ok e110_ok)) (node_ok (leaf_ok e111_ok) (node_ok (leaf_ok e112_ok) (leaf_ok e113_ok)))))))
set_option maxRecDepth 1000000 in
theorem worksQ : allTrue (callG Tryd.prog Aw tb 200 (.fn 13) [] emptyS) = true := by kernel_rfl
theorem works : allTrue (callD Tryd.prog Aw 200 (.fn 13) [] emptyS) = true := by rw [← callG_eq tb_ok]; exact worksQ
end Go.Proofs.YtmhmbmogodofeaaDoor.S
