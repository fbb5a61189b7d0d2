import Derived.Test.YtmhmbmogodofeaaDoorMB
import Derived.Test.YtmhmbmogodofeaaDoorMA
set_option autoImplicit false
set_option linter.unusedVariables false
set_option linter.unusedSimpArgs false
set_option maxRecDepth 100000
namespace Go.Proofs.YtmhmbmogodofeaaDoor.S
open Go.FS Go.RowKit
attribute [local congr] bind_cg cond_cg gd_cg

/-! Noughts ahead and behind. -/
def len8T : Array UInt8 := #[0, 1, 2, 2, 3, 3, 3, 3, 4, 4, 4, 4, 4, 4, 4, 4, 5, 5, 5, 5, 5, 5, 5, 5, 5, 5, 5, 5, 5, 5, 5, 5, 6, 6, 6, 6, 6, 6, 6, 6, 6, 6, 6, 6, 6, 6, 6, 6, 6, 6, 6, 6, 6, 6, 6, 6, 6, 6, 6, 6, 6, 6, 6, 6, 7, 7, 7, 7, 7, 7, 7, 7, 7, 7, 7, 7, 7, 7, 7, 7, 7, 7, 7, 7, 7, 7, 7, 7, 7, 7, 7, 7, 7, 7, 7, 7, 7, 7, 7, 7, 7, 7, 7, 7, 7, 7, 7, 7, 7, 7, 7, 7, 7, 7, 7, 7, 7, 7, 7, 7, 7, 7, 7, 7, 7, 7, 7, 7, 8, 8, 8, 8, 8, 8, 8, 8, 8, 8, 8, 8, 8, 8, 8, 8, 8, 8, 8, 8, 8, 8, 8, 8, 8, 8, 8, 8, 8, 8, 8, 8, 8, 8, 8, 8, 8, 8, 8, 8, 8, 8, 8, 8, 8, 8, 8, 8, 8, 8, 8, 8, 8, 8, 8, 8, 8, 8, 8, 8, 8, 8, 8, 8, 8, 8, 8, 8, 8, 8, 8, 8, 8, 8, 8, 8, 8, 8, 8, 8, 8, 8, 8, 8, 8, 8, 8, 8, 8, 8, 8, 8, 8, 8, 8, 8, 8, 8, 8, 8, 8, 8, 8, 8, 8, 8, 8, 8, 8, 8, 8, 8, 8, 8, 8, 8, 8, 8, 8, 8, 8, 8, 8, 8, 8, 8, 8, 8]
theorem len8_all : (List.range 256).all (fun y => len8T.toList[y]? == some (UInt8.ofNat (len8 y))) = true := by decide +kernel
theorem len8_le {y : Nat} (h : y < 256) : len8 y ≤ 8 := by
  unfold len8
  split
  · omega
  · rename_i h0
    have := (Nat.log2_lt h0).2 (show y < 2 ^ 8 by omega)
    omega
theorem len8_ix {y : Nat} (h : y < 256) : indexD Tryd.prog 9 (.string { data := len8T }) (.int .u8 (y : Int)) = some (.int .u8 (len8 y : Int)) := by
  have h1 := List.all_eq_true.1 len8_all y (List.mem_range.2 h)
  have h1 : len8T.toList[y]? = some (UInt8.ofNat (len8 y)) := by simpa using h1
  have h0 : decide ((0 : Int) ≤ (y : Int)) = true := decide_eq_true (by omega)
  have h2 := len8_le h
  unfold indexD
  rw [u9]
  simp only [h0, condT, Int.toNat_natCast, h1, Option.map_some]
  rw [toNat_ofNat (by omega)]
theorem len8_dec {y : Nat} (h : 256 ≤ y) : len8 y = len8 (y / 2 ^ 8) + 8 := by
  have := log2_div (x := y) (k := 8) h
  have h1 : y / 2 ^ 8 ≠ 0 := by have := Nat.div_pos (show 2 ^ 8 ≤ y from h) (by decide); omega
  unfold len8
  rw [if_neg (by omega), if_neg h1]; omega
theorem len8_dec2 {y : Nat} (h : 65536 ≤ y) : len8 y = len8 (y / 2 ^ 16) + 16 := by
  have := log2_div (x := y) (k := 16) h
  have h1 : y / 2 ^ 16 ≠ 0 := by have := Nat.div_pos (show 2 ^ 16 ≤ y from h) (by decide); omega
  unfold len8
  rw [if_neg (by omega), if_neg h1]; omega
theorem len8_dec3 {y : Nat} (h : 4294967296 ≤ y) : len8 y = len8 (y / 2 ^ 32) + 32 := by
  have := log2_div (x := y) (k := 32) h
  have h1 : y / 2 ^ 32 ≠ 0 := by have := Nat.div_pos (show 2 ^ 32 ≤ y from h) (by decide); omega
  unfold len8
  rw [if_neg (by omega), if_neg h1]; omega
theorem shr64' {a : Nat} (k : Nat) (hk : k ≤ 64) : bopD Tryd.prog .shr 38 (.int .u64 (a : Int)) (.int .u64 (k : Int)) = some (.int .u64 ((a / 2 ^ k : Nat) : Int)) := by
  rw [bop_int]
  simp only [intS, IntKind.bits]
  rw [if_neg (by omega), Int.toNat_natCast, Nat.min_eq_left hk]
  have e : ((2 : Int) ^ k) = ((2 ^ k : Nat) : Int) := by simp
  rw [e, ← Int.ofNat_fdiv]
theorem wrap8n {x : Nat} (h : x < 256) : IntKind.u8.wrap (x : Int) = (x : Int) := by
  rw [wrap_us rfl]
  show ((x : Int) % 256) = _
  omega
noncomputable abbrev B1 (v : Value) (s : SH) (y a : Value) : Option (List (Value × SH)) :=
       (bopD Tryd.prog .geq 38 y (.int .u64 256)).bind fun v48 =>
       jn (fun (j872_0 : Value) (j872_2 : Value) =>
       (convertD Tryd.prog false s 38 5 j872_0).bind fun p56 =>
       (indexD Tryd.prog 9 v p56.1).bind fun v57 =>
       (convertD Tryd.prog false p56.2 5 3 v57).bind fun p58 =>
       (bopD Tryd.prog .add 3 j872_2 p58.1).bind fun v59 =>
       some [(v59, p58.2)]) fun k872 =>
       (boolD v48).bind fun b49 => cond b49 (
       (bopD Tryd.prog .shr 38 y (.int .u64 8)).bind fun v50 =>
       (bopD Tryd.prog .add 3 a (.int .i64 8)).bind fun v51 =>
       k872 v50 v51) (
       k872 y a)
noncomputable abbrev B2 (v : Value) (s : SH) (y a : Value) : Option (List (Value × SH)) :=
       (bopD Tryd.prog .geq 38 y (.int .u64 65536)).bind fun v32 =>
       jn (fun (j862_0 : Value) (j862_2 : Value) => B1 v s j862_0 j862_2) fun k862 =>
       (boolD v32).bind fun b33 => cond b33 (
       (bopD Tryd.prog .shr 38 y (.int .u64 16)).bind fun v34 =>
       (bopD Tryd.prog .add 3 a (.int .i64 16)).bind fun v35 =>
       k862 v34 v35) (
       k862 y a)
noncomputable abbrev B3 (v : Value) (s : SH) (a0 : Value) : Option (List (Value × SH)) :=
       (bopD Tryd.prog .geq 38 a0 (.int .u64 4294967296)).bind fun v1 =>
       jn (fun (j842_0 : Value) (j842_2 : Value) => B2 v s j842_0 j842_2) fun k842 =>
       (boolD v1).bind fun b2 => cond b2 (
       (bopD Tryd.prog .shr 38 a0 (.int .u64 32)).bind fun v3 =>
       k842 v3 (.int .i64 32)) (
       k842 a0 (.int .i64 0))
def IxT (v : Value) : Prop := ∀ y : Nat, y < 256 → indexD Tryd.prog 9 v (.int .u8 (y : Int)) = some (.int .u8 (len8 y : Int))
theorem b1_ok {v : Value} (hv : IxT v) (s : SH) (y a : Nat) (hy : y < 65536) (ha : a ≤ 48) : One (B1 v s (U (y : Int)) (I (a : Int))) fun v s' => v = I ((a + len8 y : Nat) : Int) ∧ s' = s := by
  by_cases h : 256 ≤ y
  · have hg : (y : Int) ≥ 256 := by omega
    have hlt : y / 2 ^ 8 < 256 := by omega
    have e8 : bopD Tryd.prog .shr 38 (U (y : Int)) (.int .u64 8) = some (U ((y / 2 ^ 8 : Nat) : Int)) := shr64' (a := y) 8 (by decide)
    have ew : IntKind.i64.wrap ((a : Int) + 8) = ((a + 8 : Nat) : Int) := by rw [wrap_i64 (by omega) (by omega)]; rfl
    have hl := len8_le hlt
    have e9 : IntKind.i64.wrap (len8 (y / 2 ^ 8) : Int) = (len8 (y / 2 ^ 8) : Int) := wrap_i64 (by omega) (by omega)
    have key : IntKind.i64.wrap (((a + 8 : Nat) : Int) + (len8 (y / 2 ^ 8) : Int)) = ((a + 8 + len8 (y / 2 ^ 8) : Nat) : Int) := by rw [wrap_i64 (by omega) (by omega)]; omega
    simp only [B1, bop_geq, hg, decide_true, bindS, jnE, boolS, condT, e8, bop_add, ew, conv_int u38 u5, wrap8n hlt, fst', snd', hv _ hlt, conv_int u5 u3, e9, key]
    exact One.ret ⟨by rw [len8_dec h]; congr 2; omega, rfl⟩
  · have hg : ¬ (y : Int) ≥ 256 := by omega
    have hlt : y < 256 := by omega
    have hl := len8_le hlt
    have e9 : IntKind.i64.wrap (len8 y : Int) = (len8 y : Int) := wrap_i64 (by omega) (by omega)
    have key : IntKind.i64.wrap ((a : Int) + (len8 y : Int)) = ((a + len8 y : Nat) : Int) := by rw [wrap_i64 (by omega) (by omega)]; omega
    simp only [B1, bop_geq, hg, decide_false, bindS, jnE, boolS, condF, conv_int u38 u5, wrap8n hlt, fst', snd', hv _ hlt, conv_int u5 u3, e9, bop_add, key]
    exact One.ret ⟨rfl, rfl⟩
theorem b2_ok {v : Value} (hv : IxT v) (s : SH) (y a : Nat) (hy : y < 4294967296) (ha : a ≤ 32) : One (B2 v s (U (y : Int)) (I (a : Int))) fun v s' => v = I ((a + len8 y : Nat) : Int) ∧ s' = s := by
  by_cases h : 65536 ≤ y
  · have hg : (y : Int) ≥ 65536 := by omega
    have hlt : y / 2 ^ 16 < 65536 := by omega
    have e8 : bopD Tryd.prog .shr 38 (U (y : Int)) (.int .u64 16) = some (U ((y / 2 ^ 16 : Nat) : Int)) := shr64' (a := y) 16 (by decide)
    have ew : IntKind.i64.wrap ((a : Int) + 16) = ((a + 16 : Nat) : Int) := by rw [wrap_i64 (by omega) (by omega)]; rfl
    unfold B2
    rw [bop_geq, decide_eq_true hg, bindS, jnE, boolS, bindS, condT, e8, bindS, bop_add, ew, bindS]
    have := b1_ok hv s (y / 2 ^ 16) (a + 16) hlt (by omega)
    rw [show a + 16 + len8 (y / 2 ^ 16) = a + len8 y from by rw [len8_dec2 h]; omega] at this
    exact this
  · have hg : ¬ (y : Int) ≥ 65536 := by omega
    unfold B2
    rw [bop_geq, decide_eq_false hg, bindS, jnE, boolS, bindS, condF]
    exact b1_ok hv s y a (by omega) (by omega)
theorem b3_ok {v : Value} (hv : IxT v) (s : SH) (x : Nat) (hx : x < 2 ^ 64) : One (B3 v s (U (x : Int))) fun v s' => v = I (len8 x : Int) ∧ Ext s s' := by
  unfold B3
  by_cases h : 4294967296 ≤ x
  · have hg : (x : Int) ≥ 4294967296 := by omega
    have hlt : x / 2 ^ 32 < 4294967296 := by omega
    have e8 : bopD Tryd.prog .shr 38 (U (x : Int)) (.int .u64 32) = some (U ((x / 2 ^ 32 : Nat) : Int)) := shr64' (a := x) 32 (by decide)
    rw [bop_geq, decide_eq_true hg, bindS, jnE, boolS, bindS, condT, e8, bindS]
    obtain ⟨v, s', e, h1, h2⟩ := b2_ok hv s (x / 2 ^ 32) 32 hlt (by omega)
    exact ⟨v, s', e, by rw [h1, len8_dec3 h, Nat.add_comm], by rw [h2]; exact .refl s⟩
  · have hg : ¬ (x : Int) ≥ 4294967296 := by omega
    rw [bop_geq, decide_eq_false hg, bindS, jnE, boolS, bindS, condF]
    obtain ⟨v, s', e, h1, h2⟩ := b2_ok hv s x 0 (by omega) (by omega)
    exact ⟨v, s', e, by rw [h1, Nat.zero_add], by rw [h2]; exact .refl s⟩
theorem f110_B (C : OracleJ HP) (n : Nat) (a0 : Value) (s : SH) : f110 (dOps Tryd.prog) C n a0 s = B3 (.string { data := len8T }) s a0 := rfl
theorem c110 {n : Nat} {s : SH} (x : Nat) (hx : x < 2 ^ 64) : callD Tryd.prog AB (n + 1) (.fn 110) [U (x : Int)] s = some [(I (len8 x : Int), s)] := by
  refine cut_plain (fn := Tryd.f110) rfl rfl (by kernel_rfl) (fun _ h => by cases h) (.int _ _) ?_
  show One (bodyD Tryd.prog false _ _ 110 Tryd.f110 _ _) _
  rw [f110_r]
  rw [f110_B]
  exact b3_ok (fun y h => len8_ix h) s x hx
theorem c101 {n : Nat} {s : SH} (x : Nat) (h0 : x ≠ 0) (hx : x < 2 ^ 64) : callD Tryd.prog AB (n + 2) (.fn 101) [U (x : Int)] s = some [(I (nlz x : Int), s)] := by
  refine cut_plain (fn := Tryd.f101) rfl rfl (by kernel_rfl) (fun _ h => by cases h) (.int _ _) ?_
  show One (bodyD Tryd.prog false _ _ 101 Tryd.f101 _ _) _
  rw [f101_r]
  have hl := (Nat.log2_lt h0).2 hx
  have e : len8 x = Nat.log2 x + 1 := by unfold len8; rw [if_neg h0]
  have hw : IntKind.i64.wrap (64 - (len8 x : Int)) = (nlz x : Int) := by unfold nlz; rw [e, wrap_i64 (by omega) (by omega)]; omega
  simp only [f101, oO, bindS, many1, jnE, boolS, gdB, fst', snd', c110 (n := n) x hx, b_sub, hw]
  exact One.ret ⟨rfl, .refl s⟩
theorem and64' {a b : Nat} (ha : a < 2 ^ 64) (hb : b < 2 ^ 64) : bopD Tryd.prog .and 38 (U (a : Int)) (U (b : Int)) = some (U ((a &&& b : Nat) : Int)) := and64 ha hb
theorem wrapN (m : Nat) : IntKind.u64.wrap (m : Int) = ((m % 2 ^ 64 : Nat) : Int) := by
  rw [wrap_us rfl]
  exact (Int.natCast_emod _ _).symm
theorem top6 (m : Nat) : (m % 2 ^ 64) / 2 ^ 58 < 64 := by omega
noncomputable abbrev B4 (c : Value) (s : SH) (a0 : Value) : Option (List (Value × SH)) :=
 (bopD Tryd.prog .eql 38 a0 (.int .u64 0)).bind fun v1 =>
 (boolD v1).bind fun b2 => cond b2 (
 some [((.int .i64 64), s)]) (
 (uopD Tryd.prog .neg a0).bind fun v3 =>
 (bopD Tryd.prog .and 38 a0 v3).bind fun v4 =>
 (bopD Tryd.prog .mul 38 v4 c).bind fun v5 =>
 (bopD Tryd.prog .shr 38 v5 (.int .u64 58)).bind fun v6 =>
 (indexAddrD Tryd.prog 176 (gpV 1 0) v6).bind fun v7 =>
 (loadD Tryd.prog s 5 v7).bind fun v8 =>
 (convertD Tryd.prog false s 5 3 v8).bind fun p9 =>
 some [(p9.1, p9.2)])
theorem ix176 {i : Nat} (hi : i < 64) : indexAddrD Tryd.prog 176 (gpV 1 0) (U (i : Int)) = some (gpV 1 i) := by
  have h1 : decide ((0 : Int) ≤ (i : Int)) = true := decide_eq_true (by omega)
  have h2 : decide ((i : Int) < 64) = true := decide_eq_true (by omega)
  unfold indexAddrD
  rw [u176]
  show ((sizeD Tryd.prog 5).bind fun z => bif decide ((0 : Int) ≤ (i : Int)) && decide ((i : Int) < 64) then some (gpV 1 (0 + (i : Int).toNat * z)) else none) = _
  rw [z5, bindS, h1, h2, Bool.and_self, condT, Int.toNat_natCast, Nat.mul_one, Nat.zero_add]
theorem ldbr (s : SH) {i : Nat} {k : Int} (h : brT[i]? = some k) : loadD Tryd.prog s 5 (gpV 1 i) = some (.int .u8 k) := by
  rw [load_gp (cs := bruijn) rfl, part_one a5]
  show (brT.map fun n => Value.int .u8 n)[i]? = _
  rw [List.getElem?_map, h]; rfl
theorem b4_ok (c : Nat) (s : SH) (x : Nat) (h0 : x ≠ 0) (hx : x < 2 ^ 64) (hb : brT[(2 ^ ntz x * c % 2 ^ 64) / 2 ^ 58]? = some (ntz x : Int)) : B4 (U (c : Int)) s (U (x : Int)) = some [(I (ntz x : Int), s)] := by
  have hne : ¬ (x : Int) = 0 := by omega
  have hn : IntKind.u64.wrap (0 - (x : Int)) = ((2 ^ 64 - x : Nat) : Int) := by
    rw [wrap_us rfl]
    show ((0 - (x : Int)) % 18446744073709551616) = _
    omega
  obtain ⟨_, _, hk⟩ := ntz_spec h0 hx
  have hi := top6 (2 ^ ntz x * c)
  have hm : IntKind.u64.wrap (((2 ^ ntz x : Nat) : Int) * (c : Int)) = ((2 ^ ntz x * c % 2 ^ 64 : Nat) : Int) := by rw [← Int.natCast_mul, wrapN]
  have hs : bopD Tryd.prog .shr 38 (U ((2 ^ ntz x * c % 2 ^ 64 : Nat) : Int)) (.int .u64 58) = some (U ((2 ^ ntz x * c % 2 ^ 64 / 2 ^ 58 : Nat) : Int)) := shr64' 58 (by decide)
  have hw : IntKind.i64.wrap (ntz x : Int) = (ntz x : Int) := wrap_i64 (by omega) (by omega)
  simp only [B4, boolS, bindS, bop_eql, hne, decide_false, condF, uop_neg, hn, and64' hx (show 2 ^ 64 - x < 2 ^ 64 by omega), low_bit h0 hx, bop_mul, hm, hs, ix176 hi, ldbr s hb, conv_int u5 u3, hw]
theorem f102_B (C : OracleJ HP) (n : Nat) (a0 : Value) (s : SH) : f102 (dOps Tryd.prog) C n a0 s = B4 (.int .u64 285870213051353865) s a0 := rfl
theorem c102 {n : Nat} {s : SH} (x : Nat) (h0 : x ≠ 0) (hx : x < 2 ^ 64) : callD Tryd.prog AB (n + 1) (.fn 102) [U (x : Int)] s = some [(I (ntz x : Int), s)] := by
  refine cut_plain (fn := Tryd.f102) rfl rfl (by kernel_rfl) (fun _ h => by cases h) (.int _ _) ?_
  show One (bodyD Tryd.prog false _ _ 102 Tryd.f102 _ _) _
  rw [f102_r]
  rw [f102_B]
  obtain ⟨_, _, hk⟩ := ntz_spec h0 hx
  have hb := br_at hk
  rw [show (.int .u64 285870213051353865 : Value) = U ((285870213051353865 : Nat) : Int) from rfl, b4_ok _ s x h0 hx hb]
  exact One.ret ⟨rfl, .refl s⟩
end Go.Proofs.YtmhmbmogodofeaaDoor.S

set_option autoImplicit false
set_option linter.unusedVariables false
set_option linter.unusedSimpArgs false
set_option maxRecDepth 100000
namespace Go.Proofs.YtmhmbmogodofeaaDoor.S
open Go.FS Go.RowKit
attribute [local congr] bind_cg cond_cg gd_cg

/-! States of values. -/
abbrev vr (n l a b : Int) : List Value := [I n, U l, I a, I b]
abbrev vs (n l a b : Int) : Value := .agg #[I n, U l, I a, I b]
abbrev wr (a b : Int) : List Value := [I a, I b]
abbrev wv (a b : Int) : Value := .agg #[I a, I b]
def xsV (u : XS) : Value := vs u.n u.last u.lead u.trail
theorem vs_plain (n l a b : Int) : Plain (vs n l a b) := Plain.agg (l := [I n, U l, I a, I b]) rfl
theorem wv_plain (a b : Int) : Plain (wv a b) := Plain.agg (l := [I a, I b]) rfl
theorem bx100 (s : SH) (n l a b : Int) : boxD s (vs n l a b) = some (pt s.n 0, newD s (.row (vr n l a b))) := box_at rfl rfl
theorem al100 (s : SH) : allocD Tryd.prog s 100 = some (pt s.n 0, newD s (.row (vr 0 0 0 0))) := alloc_at zr100
theorem bl100_b : buildD Tryd.prog 100 [(2, I 64)] = some (vs 0 0 64 0) := by kernel_rfl
theorem bl100 (n l a b : Int) : buildD Tryd.prog 100 [(0, I n), (1, U l), (2, I a), (3, I b)] = some (vs n l a b) := by kernel_rfl
theorem p100 (n l a b : Int) : partD Tryd.prog 100 (vr n l a b) 0 = some (vs n l a b) := part_agg a100 z100 rfl rfl
theorem st100_0 (s : SH) (x y z t n l a b : Int) : storeD Tryd.prog (newD s (.row (vr x y z t))) 100 (pt s.n 0) (vs n l a b) = some (newD s (.row (vr n l a b))) := st_n0 (l := vr n l a b) s z100 rfl rfl rfl
theorem bx151 (s : SH) (a b : Int) : boxD s (wv a b) = some (pt s.n 0, newD s (.row (wr a b))) := box_at rfl rfl
theorem al151 (s : SH) : allocD Tryd.prog s 151 = some (pt s.n 0, newD s (.row (wr 0 0))) := alloc_at zr151
theorem bl151 (a b : Int) : buildD Tryd.prog 151 [(0, I a), (1, I b)] = some (wv a b) := by kernel_rfl
theorem p151 (a b : Int) : partD Tryd.prog 151 (wr a b) 0 = some (wv a b) := part_agg a151 z151 rfl rfl
theorem st151_0 (s : SH) (x y a b : Int) : storeD Tryd.prog (newD s (.row (wr x y))) 151 (pt s.n 0) (wv a b) = some (newD s (.row (wr a b))) := st_n0 (l := wr a b) s z151 rfl rfl rfl
theorem ib2 (x y : Int) : (x == y) = decide (x = y) := by by_cases h : x = y <;> simp [h]
theorem w_eq (a b c d : Int) : eqS Tryd.prog 4 151 (wv a b) (wv c d) = some (decide (a = c ∧ b = d)) := by
  have : eqS Tryd.prog 4 151 (wv a b) (wv c d) = cond (a == c) (cond (b == d) (some true) (some false)) (some false) := by kernel_rfl
  rw [this, ib2, ib2]
  by_cases h1 : a = c <;> by_cases h2 : b = d <;> simp [h1, h2]
theorem w_eql (a b c d : Int) : bopD Tryd.prog .eql 151 (wv a b) (wv c d) = some (.bool (decide (a = c ∧ b = d))) :=
  (bop_agg (P := Tryd.prog) (d := 4) (t := 151) (a := #[I a, I b]) (b := #[I c, I d]) (r := decide (a = c ∧ b = d)) (by decide) (by kernel_rfl) rfl rfl (w_eq a b c d)).1
theorem c44 {n : Nat} {s : SH} : callD Tryd.prog AB (n + 1) (.fn 44) [] s = some [(xsV ⟨0, 0, 64, 0⟩, s)] := by
  refine cut_plain (fn := Tryd.f44) rfl rfl (by kernel_rfl) (fun _ h => by cases h) (vs_plain _ _ _ _) ?_
  show One (bodyD Tryd.prog false _ _ 44 Tryd.f44 _ _) _
  rw [f44_r]
  simp only [f44, oO, bindS, many1, jnE, boolS, gdB, fst', snd', al100, bl100_b, st100_0, ld_n0, ld_n1, ld_n2, ld_n3, p3_0, p3_1, p3_2, p3_3, p38_0, p38_1, p100]
  exact One.ret ⟨rfl, ext1 s _⟩
theorem c79 {n : Nat} {s : SH} (u : XS) : callD Tryd.prog AB (n + 1) (.fn 79) [xsV u] s = some [(wv u.lead u.trail, s)] := by
  refine cut_plain (fn := Tryd.f79) rfl rfl (by kernel_rfl) (fun _ h => by cases h) (wv_plain _ _) ?_
  show One (bodyD Tryd.prog false _ _ 79 Tryd.f79 _ _) _
  rw [f79_r]
  simp only [f79, oO, bindS, many1, jnE, boolS, gdB, fst', snd', xsV, bx100, al151, fld100_2, fld100_3, ld_n0, ld_n1, ld_n2, ld_n3, p3_0, p3_1, p3_2, p3_3, p38_0, p38_1, bl151, st151_0, p151]
  exact One.ret ⟨rfl, ext2' s _ _⟩
theorem c83 {n : Nat} {s : SH} (a b : Nat) (h : a + b ≤ 64) : callD Tryd.prog AB (n + 1) (.fn 83) [wv a b] s = some [(I ((64 - a - b : Nat) : Int), s)] := by
  refine cut_plain (fn := Tryd.f83) rfl rfl (by kernel_rfl) (fun _ h => by cases h) (.int _ _) ?_
  show One (bodyD Tryd.prog false _ _ 83 Tryd.f83 _ _) _
  rw [f83_r]
  have e1 : IntKind.i64.wrap (64 - (a : Int)) = ((64 - a : Nat) : Int) := by rw [wrap_i64 (by omega) (by omega)]; omega
  have e2 : IntKind.i64.wrap (((64 - a : Nat) : Int) - (b : Int)) = ((64 - a - b : Nat) : Int) := by rw [wrap_i64 (by omega) (by omega)]; omega
  simp only [f83, oO, bindS, many1, jnE, boolS, gdB, fst', snd', bx151, fld151_0, fld151_1, ld_n0, ld_n1, ld_n2, ld_n3, p3_0, p3_1, p3_2, p3_3, p38_0, p38_1, b_sub, e1, e2]
  exact One.ret ⟨rfl, ext1 s _⟩
theorem c84 {n : Nat} {s : SH} (u : XS) (v a b : Nat) (hn : u.n ≤ 4096) : callD Tryd.prog AB (n + 1) (.fn 84) [xsV u, U (v : Int), wv a b] s = some [(xsV ⟨u.n + 1, v, a, b⟩, s)] := by
  refine cut_plain (fn := Tryd.f84) rfl rfl (by kernel_rfl) (fun _ h => by cases h) (vs_plain _ _ _ _) ?_
  show One (bodyD Tryd.prog false _ _ 84 Tryd.f84 _ _) _
  rw [f84_r]
  have e1 : IntKind.i64.wrap ((u.n : Int) + 1) = ((u.n + 1 : Nat) : Int) := by rw [wrap_i64 (by omega) (by omega)]; rfl
  simp only [f84, oO, bindS, many1, jnE, boolS, gdB, fst', snd', xsV, bx100, bx151, al100, fld100_0, fld151_0, fld151_1, ld_n0, ld_n1, ld_n2, ld_n3, p3_0, p3_1, p3_2, p3_3, p38_0, p38_1, bop_add, e1, bl100, st100_0, p100]
  exact One.ret ⟨rfl, ext3' s _ _ _⟩
theorem c81 {n : Nat} {s : SH} (a b c d : Nat) : callD Tryd.prog AB (n + 1) (.fn 81) [wv a b, wv c d] s = some [(.bool (decide (a < 64 ∧ a ≤ c ∧ b ≤ d)), s)] := by
  refine cut_plain (fn := Tryd.f81) rfl rfl (by kernel_rfl) (fun _ h => by cases h) (.bool _) ?_
  show One (bodyD Tryd.prog false _ _ 81 Tryd.f81 _ _) _
  rw [f81_r]
  simp only [f81, oO, bindS, many1, jnE, boolS, gdB, fst', snd', bx151, fld151_0, fld151_1, ld_n0, ld_n1, ld_n2, ld_n3, p3_0, p3_1, p3_2, p3_3, p38_0, p38_1, bop_lss, bop_geq]
  by_cases h1 : a < 64
  · have g1 : (a : Int) < 64 := by omega
    by_cases h2 : a ≤ c
    · have g2 : (c : Int) ≥ (a : Int) := by omega
      have g3 : decide ((d : Int) ≥ (b : Int)) = decide (a < 64 ∧ a ≤ c ∧ b ≤ d) := by
        by_cases h3 : b ≤ d
        · have hh : a < 64 ∧ a ≤ c ∧ b ≤ d := ⟨h1, h2, h3⟩
          rw [decide_eq_true (by omega), decide_eq_true hh]
        · have hh : ¬ (a < 64 ∧ a ≤ c ∧ b ≤ d) := fun h => h3 h.2.2
          rw [decide_eq_false (by omega), decide_eq_false hh]
      simp only [g1, g2, g3, decide_true, condT]
      exact One.ret ⟨rfl, ext2' s _ _⟩
    · have g2 : ¬ (c : Int) ≥ (a : Int) := by omega
      simp only [g1, g2, decide_true, decide_false, condT, condF]
      have hh : ¬ (a < 64 ∧ a ≤ c ∧ b ≤ d) := fun h => h2 h.2.1
      rw [decide_eq_false hh]
      exact One.ret ⟨rfl, ext2' s _ _⟩
  · have g1 : ¬ (a : Int) < 64 := by omega
    simp only [g1, decide_false, condF]
    have hh : ¬ (a < 64 ∧ a ≤ c ∧ b ≤ d) := fun h => h1 h.1
    rw [decide_eq_false hh]
    exact One.ret ⟨rfl, ext2' s _ _⟩
theorem c78 {n : Nat} {s : SH} (u : XS) (hn : u.n ≤ 4096) (hu : XSok u) : callD Tryd.prog AB (n + 2) (.fn 78) [xsV u] s = some [(.bool true, s)] := by
  refine cut_plain (fn := Tryd.f78) rfl rfl (by kernel_rfl) (fun _ h => by cases h) (.bool _) ?_
  show One (bodyD Tryd.prog false _ _ 78 Tryd.f78 _ _) _
  rw [f78_r]
  have e79 := fun s => c79 (n := n) (s := s) u
  have b1 : ∀ s : SH, boxD s (xsV u) = some (pt s.n 0, newD s (.row (vr u.n u.last u.lead u.trail))) := fun s => bx100 s _ _ _ _
  have b2 : partD Tryd.prog 100 (vr u.n u.last u.lead u.trail) 0 = some (xsV u) := p100 _ _ _ _
  have g1 : ¬ (u.n : Int) < 0 := by omega
  have g2 : ¬ (u.n : Int) > 4096 := by omega
  obtain ⟨_, h⟩ := hu
  rcases h with ⟨h1, h2⟩ | h
  · have g3 : decide ((u.lead : Int) = 64 ∧ (u.trail : Int) = 0) = true := decide_eq_true (by omega)
    simp only [f78, oO, bindS, many1, jnE, boolS, gdB, fst', snd', b1, b2, ld_n0, ld_n1, ld_n2, ld_n3, p3_0, p3_1, p3_2, p3_3, p38_0, p38_1, e79, al151, st151_0, fld100_0, bop_lss, g1, decide_false, condF, bop_gtr, g2, bl151, p151, w_eql, g3, condT]
    exact One.ret ⟨rfl, ext2' s _ _⟩
  · have g3 : ¬ ((u.lead : Int) = 64 ∧ (u.trail : Int) = 0) := by omega
    have g4 : (u.lead : Int) ≥ 0 := by omega
    have g5 : (u.trail : Int) ≥ 0 := by omega
    have g6 : (u.lead : Int) < 64 := by omega
    have g7 : (u.trail : Int) < 64 := by omega
    have g8 : ((64 - u.lead - u.trail : Nat) : Int) > 0 := by omega
    have e83 := fun s => c83 (n := n) (s := s) u.lead u.trail (by omega)
    simp only [f78, oO, bindS, many1, jnE, boolS, gdB, fst', snd', b1, b2, ld_n0, ld_n1, ld_n2, ld_n3, p3_0, p3_1, p3_2, p3_3, p38_0, p38_1, e79, al151, st151_0, fld100_0, fld151_0, fld151_1, bop_lss, g1, decide_false, condF, bop_gtr, g2, bl151, p151, w_eql, g3, bop_geq, g4, g5, g6, g7, decide_true, condT, e83, g8]
    exact One.ret ⟨rfl, ext2' s _ _⟩
theorem c82 {n : Nat} {s : SH} (x : Nat) (h0 : x ≠ 0) (hx : x < 2 ^ 64) : callD Tryd.prog AB (n + 3) (.fn 82) [U (x : Int)] s = some [(wv (nlz x) (ntz x), s)] := by
  refine cut_plain (fn := Tryd.f82) rfl rfl (by kernel_rfl) (fun _ h => by cases h) (wv_plain _ _) ?_
  show One (bodyD Tryd.prog false _ _ 82 Tryd.f82 _ _) _
  rw [f82_r]
  simp only [f82, oO, bindS, many1, jnE, boolS, gdB, fst', snd', al151, c101 (n := n) x h0 hx, c102 (n := n + 1) x h0 hx, bl151, st151_0, ld_n0, ld_n1, ld_n2, ld_n3, p3_0, p3_1, p3_2, p3_3, p38_0, p38_1, p151]
  exact One.ret ⟨rfl, ext1 s _⟩
/-! Parts are written. -/
def pr (p : Nat × Nat) : List Value := [U (p.1 : Int), I (p.2 : Int)]
theorem pr_len (p : Nat × Nat) : (pr p).length = 2 := rfl
theorem bl155 (a b : Int) : buildD Tryd.prog 155 [(0, U a), (1, I b)] = some (.agg #[U a, I b]) := by kernel_rfl
theorem ld_pr {s : SH} (p : Nat × Nat) : loadD Tryd.prog s 155 (fpV (pr p).toArray 0) = some (.agg (pr p).toArray) := by rw [load_fp, part_agg a155 z155 (l := pr p) rfl rfl]
theorem al155 (s : SH) : allocD Tryd.prog s 155 = some (pt s.n 0, newD s (.row [U 0, I 0])) := alloc_at zr155
theorem st155_0 (s : SH) (x y : Int) (p : Nat × Nat) : storeD Tryd.prog (newD s (.row [U x, I y])) 155 (pt s.n 0) (.agg (pr p).toArray) = some (newD s (.row [U (p.1 : Int), I (p.2 : Int)])) := st_n0 (l := pr p) s z155 rfl rfl rfl
theorem bs170_1 (s : SH) (a b : Int) : buildSliceD Tryd.prog false s 170 1 [(0, .agg #[U a, I b])] = some (fz 1 [[U a, I b]], s) := by kernel_rfl
theorem bs170_2 (s : SH) (a b c d : Int) : buildSliceD Tryd.prog false s 170 2 [(0, .agg #[U a, I b]), (1, .agg #[U c, I d])] = some (fz 1 [[U a, I b], [U c, I d]], s) := by kernel_rfl
theorem bs170_4 (s : SH) (a b c d e f g h : Int) : buildSliceD Tryd.prog false s 170 4 [(0, .agg #[U a, I b]), (1, .agg #[U c, I d]), (2, .agg #[U e, I f]), (3, .agg #[U g, I h])] = some (fz 1 [[U a, I b], [U c, I d], [U e, I f], [U g, I h]], s) := by kernel_rfl
def partB (ps : List (Nat × Nat)) : List Bool := (ps.map fun p => bitsN p.2 p.1).flatten
theorem partB_len : ∀ (ps : List (Nat × Nat)), (∀ p ∈ ps, p.2 ≤ 64) → (partB ps).length ≤ 64 * ps.length
  | [], _ => by simp [partB]
  | p :: ps, h => by
    have := partB_len ps fun q hq => h q (List.mem_cons_of_mem _ hq)
    have h1 := h p (List.mem_cons_self ..)
    unfold partB at *
    rw [List.map_cons, List.flatten_cons, List.length_append, bitsN_len, List.length_cons]
    omega
theorem partB_take {ps : List (Nat × Nat)} {i : Nat} (hi : i < ps.length) : partB (ps.take (i + 1)) = partB (ps.take i) ++ bitsN ps[i].2 ps[i].1 := by
  rw [List.take_succ_eq_append_getElem hi]
  unfold partB
  rw [List.map_append, List.flatten_append]
  simp
theorem c80 {n lo id m : Nat} {s : SH} {bs : List Bool} (ps : List (Nat × Nat)) (hW : Wr lo id s bs) (hp : ∀ p ∈ ps, p.2 ≤ 64 ∧ p.1 < 2 ^ 64) (hl : ps.length ≤ 4) (hb : bs.length + 256 ≤ 524288) :
    ∃ s', callD Tryd.prog AB (n + 3) (.fn 80) [pt id 0, sl pr m ps] s = some [(I 0, s')] ∧ Wr lo id s' (bs ++ partB ps) ∧ Kp lo id s s' := by
  rw [call_fn (fn := Tryd.f80) rfl rfl (by kernel_rfl)]
  suffices h : One (bodyD Tryd.prog false (callD Tryd.prog AB (n + 2)) AB.N 80 Tryd.f80 [pt id 0, sl pr m ps] s) fun w s' => w = I 0 ∧ Wr lo id s' (bs ++ partB ps) ∧ Kp lo id s s' by
    obtain ⟨w, s', e, rfl, h⟩ := h
    exact ⟨s', e, h⟩
  rw [f80_r]
  simp only [f80, oO, bindS, many1, jnE, boolS, gdB, fst', snd', len_sl u170]
  refine list_one ps (fun i (x : Value × Value × Value) (s' : SH) => x.2.2 = I i ∧ Wr lo id s' (bs ++ partB (ps.take i)) ∧ Kp lo id s s') ?_ ?_ ⟨rfl, by rw [List.take_zero]; show Wr lo id s (bs ++ []); rw [List.append_nil]; exact hW, .refl _ _ _⟩ (by show ps.length < 2 ^ 64; omega)
  · rintro i hi ⟨x1, x2, x3⟩ s1 ⟨h2, hW1, hK1⟩ nx hnx
    simp only at h2
    subst h2
    have hlt : (i : Int) < ps.length := by omega
    have hw : IntKind.i64.wrap ((i : Int) + 1) = ((i + 1 : Nat) : Int) := by rw [wrap_i64 (by omega) (by omega)]; rfl
    obtain ⟨hp1, hp2⟩ := hp _ (List.getElem_mem hi)
    have hpl := partB_len (ps.take i) fun q hq => (hp q (List.mem_of_mem_take hq)).1
    rw [List.length_take] at hpl
    obtain ⟨s2, e2, hW2, hK2⟩ := c76 (n := n) (hW1.new' (.row [U (ps[i].1 : Int), I (ps[i].2 : Int)])) hp2 hp1 (by rw [List.length_append]; omega)
    simp only [f80_l0, oO, bindS, many1, jnE, boolS, gdB, fst', snd', bop_lss, hlt, decide_true, condT, ixs170 pr_len hi, ld_pr, al155, st155_0, fld155_0, fld155_1, ld_n0, ld_n1, ld_n2, ld_n3, p3_0, p3_1, p3_2, p3_3, p38_0, p38_1, e2, b_neq, Bool.not_true, condF, bop_add, hw]
    refine hnx (_, _, _) _ ⟨rfl, ?_, (hK1.new _).trans hK2⟩
    rw [partB_take hi, ← List.append_assoc]
    exact hW2
  · rintro ⟨x1, x2, x3⟩ s1 ⟨h2, hW1, hK1⟩ nx
    simp only at h2
    subst h2
    have hnlt : ¬ ((ps.length : Int) < ps.length) := by omega
    simp only [f80_l0, oO, bindS, many1, jnE, boolS, gdB, fst', snd', bop_lss, hnlt, decide_false, condF, beq_yes, condT]
    rw [List.take_length] at hW1
    exact One.ret ⟨rfl, hW1, hK1⟩
end Go.Proofs.YtmhmbmogodofeaaDoor.S

set_option autoImplicit false
set_option linter.unusedVariables false
set_option linter.unusedSimpArgs false
set_option maxRecDepth 100000
namespace Go.Proofs.YtmhmbmogodofeaaDoor.S
open Go.FS Go.RowKit
attribute [local congr] bind_cg cond_cg gd_cg

/-! xor.Put. -/
theorem vst_n (s : SH) (id : Nat) {x y z t n l a b : Int} (h : HP.get s.h id = some (.row (vr x y z t))) : storeD Tryd.prog s 100 (pt id 0) (vs n l a b) = some (putD s id (.row (vr n l a b))) := st_all (l := vr n l a b) z100 h rfl rfl rfl
theorem vld_n {s : SH} {id : Nat} {n l a b : Int} (h : HP.get s.h id = some (.row (vr n l a b))) : loadD Tryd.prog s 100 (pt id 0) = some (vs n l a b) := by rw [load_row h]; exact p100 n l a b
theorem vld_0 {s : SH} {id : Nat} {n l a b : Int} (h : HP.get s.h id = some (.row (vr n l a b))) : loadD Tryd.prog s 3 (pt id 0) = some (I n) := by rw [load_row h, p3_0]
theorem vld_1 {s : SH} {id : Nat} {n l a b : Int} (h : HP.get s.h id = some (.row (vr n l a b))) : loadD Tryd.prog s 38 (pt id 1) = some (U l) := by rw [load_row h, p38_1]
theorem wld_n {s : SH} {id : Nat} {a b : Int} (h : HP.get s.h id = some (.row (wr a b))) : loadD Tryd.prog s 151 (pt id 0) = some (wv a b) := by rw [load_row h]; exact p151 a b
theorem wld_0 {s : SH} {id : Nat} {a b : Int} (h : HP.get s.h id = some (.row (wr a b))) : loadD Tryd.prog s 3 (pt id 0) = some (I a) := by rw [load_row h, p3_0]
theorem wld_1 {s : SH} {id : Nat} {a b : Int} (h : HP.get s.h id = some (.row (wr a b))) : loadD Tryd.prog s 3 (pt id 1) = some (I b) := by rw [load_row h, p3_1]
theorem xor64 {a b : Nat} (ha : a < 2 ^ 64) (hb : b < 2 ^ 64) : bopD Tryd.prog .xor 38 (U (a : Int)) (U (b : Int)) = some (U ((a ^^^ b : Nat) : Int)) := by
  rw [bop_int]
  have hlt : a ^^^ b < 2 ^ 64 := xor_lt ha hb
  have e1 : (BitVec.ofInt 64 (a : Int)).toNat = a := by rw [BitVec.ofInt_natCast, BitVec.toNat_ofNat, Nat.mod_eq_of_lt ha]
  have e2 : (BitVec.ofInt 64 (b : Int)).toNat = b := by rw [BitVec.ofInt_natCast, BitVec.toNat_ofNat, Nat.mod_eq_of_lt hb]
  have e3 : (BitVec.ofInt 64 (a : Int) ^^^ BitVec.ofInt 64 (b : Int)).toNat = a ^^^ b := by rw [BitVec.toNat_xor, e1, e2]
  exact congrArg (fun z => some (Value.int IntKind.u64 z)) (show IntKind.u64.wrap (((BitVec.ofInt 64 (a : Int) ^^^ BitVec.ofInt 64 (b : Int)).toNat : Nat) : Int) = _ by rw [e3, wrap_u64 (by omega) (by omega)])
theorem xput_len {u : XS} {v : Nat} : (xput u v).length ≤ 80 := by
  unfold xput
  split
  · rw [bitsN_len]; omega
  · split
    · simp
    · split
      · simp only [List.length_append, bitsN_len, List.length_cons, List.length_nil]; omega
      · simp only [List.length_append, bitsN_len, List.length_cons, List.length_nil]; omega
/-- What is behind the parts. -/
theorem c49 {n lo id : Nat} {s : SH} {bs : List Bool} (u : XS) (v : Nat) (hW : Wr lo id s bs) (hu : XSok u) (hn : u.n ≤ 4096) (hv : v < 2 ^ 64) (hb : bs.length + 256 ≤ 524288) :
    ∃ s', callD Tryd.prog AB (n + 5) (.fn 49) [pt id 0, xsV u, U (v : Int)] s = some [(.tuple #[xsV (xnext u v), I 0], s')] ∧ Wr lo id s' (bs ++ xput u v) ∧ Kp lo id s s' := by
  rw [call_fn (fn := Tryd.f49) rfl rfl (by kernel_rfl)]
  suffices h : One (bodyD Tryd.prog false (callD Tryd.prog AB (n + 4)) AB.N 49 Tryd.f49 [pt id 0, xsV u, U (v : Int)] s) fun w s' => w = .tuple #[xsV (xnext u v), I 0] ∧ Wr lo id s' (bs ++ xput u v) ∧ Kp lo id s s' by
    obtain ⟨w, s', e, rfl, h⟩ := h
    exact ⟨s', e, h⟩
  rw [f49_r]
  have hid := hW.id_lt
  have e78 := fun s => c78 (n := n + 2) (s := s) u hn hu
  have e79 := fun s => oneS (c79 (n := n + 3) (s := s) u)
  obtain ⟨hl, hwin⟩ := hu
  let s1 : SH := newD s (.row (vr u.n u.last u.lead u.trail))
  let s2 : SH := newD s1 (.row (vr 0 0 0 0))
  have hs1 : s1.n = s.n + 1 := rfl
  have hs2 : s2.n = s.n + 2 := rfl
  have b1 : boxD s (xsV u) = some (pt s.n 0, s1) := bx100 s _ _ _ _
  have b2 : allocD Tryd.prog s1 100 = some (pt s1.n 0, s2) := al100 s1
  have b3 : allocD Tryd.prog s2 151 = some (pt s2.n 0, newD s2 (.row (wr 0 0))) := al151 s2
  have m1 : loadD Tryd.prog s2 100 (pt s.n 0) = some (xsV u) := vld_n (get_n1 s _ _)
  have m2 : loadD Tryd.prog s2 38 (pt s.n 1) = some (U u.last) := vld_1 (get_n1 s _ _)
  have m3 : loadD Tryd.prog (newD s2 (.row (wr 0 0))) 38 (pt s.n 1) = some (U u.last) := vld_1 (get_n2 s _ _ _)
  have hx := xor_lt hv hl
  have x1 := xor64 hv hl
  -- any window
  have fin : ∀ (a b : Nat) (s4 : SH) (bits : List Bool), Wr lo id s4 (bs ++ bits) → Kp lo id (newD s2 (.row (wr a b))) s4 → ∀ o, o = XS.mk (u.n + 1) v a b →
      HP.get s4.h s.n = some (.row (vr u.n u.last u.lead u.trail)) ∧ loadD Tryd.prog s4 100 (pt s.n 0) = some (xsV u) ∧ loadD Tryd.prog s4 151 (pt s2.n 0) = some (wv a b) ∧ callD Tryd.prog AB (n + 4) (.fn 84) [xsV u, U (v : Int), wv a b] s4 = some [(xsV o, s4)] ∧ storeD Tryd.prog s4 100 (pt s1.n 0) (xsV o) = some (putD s4 s1.n (.row (vr o.n o.last o.lead o.trail))) ∧ loadD Tryd.prog (putD s4 s1.n (.row (vr o.n o.last o.lead o.trail))) 100 (pt s1.n 0) = some (xsV o) ∧ Wr lo id (putD s4 s1.n (.row (vr o.n o.last o.lead o.trail))) (bs ++ bits) ∧ Kp lo id s (putD s4 s1.n (.row (vr o.n o.last o.lead o.trail))) := by
    rintro a b s4 bits hW4 hK4 o rfl
    have q1 := hK4.row (show s.n ≠ id by omega) (get_n2 s (.row (vr u.n u.last u.lead u.trail)) _ _) (i_nb _) (show s.n < s2.n + 1 by omega)
    have q2 := hK4.row (show s1.n ≠ id by omega) (get_n1 s1 (.row (vr 0 0 0 0)) _) (i_nb _) (show s1.n < s2.n + 1 by omega)
    have q3 := hK4.row (show s2.n ≠ id by omega) (get_n0 s2 (.row (wr a b))) (i_nb _) (show s2.n < s2.n + 1 by omega)
    refine ⟨q1, vld_n q1, wld_n q3, c84 u v a b hn, vst_n s4 _ q2, vld_n (get_put_same _), hW4.put (by omega) (not_isB q2 (i_nb _)), ?_⟩
    exact ((Kp.ext (ext3' s _ _ _)).trans hK4).putNew (by omega) _
  have hW3 : ∀ a b : Nat, Wr lo id (newD s2 (.row (wr a b))) bs := fun a b => ((hW.new' _).new' _).new' _
  have st3 : ∀ (x y : Int) (a b : Nat), storeD Tryd.prog (newD s2 (.row (wr x y))) 151 (pt s2.n 0) (wv a b) = some (newD s2 (.row (wr a b))) := fun x y a b => st151_0 s2 x y a b
  have g0 : ∀ a b : Nat, loadD Tryd.prog (newD s2 (.row (wr a b))) 3 (pt s.n 0) = some (I u.n) := fun a b => vld_0 (get_n2 s _ _ _)
  have gw : ∀ a b : Nat, loadD Tryd.prog (newD s2 (.row (wr a b))) 151 (pt s2.n 0) = some (wv a b) := fun a b => wld_n (get_n0 s2 _)
  have gw0 : ∀ a b : Nat, loadD Tryd.prog (newD s2 (.row (wr a b))) 3 (pt s2.n 0) = some (I a) := fun a b => wld_0 (get_n0 s2 _)
  have gw1 : ∀ a b : Nat, loadD Tryd.prog (newD s2 (.row (wr a b))) 3 (pt s2.n 1) = some (I b) := fun a b => wld_1 (get_n0 s2 _)
  by_cases h0 : u.n = 0
  · have hz : (u.n : Int) = 0 := by omega
    obtain ⟨s4, e4, hW4, hK4⟩ := c80 (n := n + 1) (m := 1) [(v, 64)] (hW3 u.lead u.trail) (by intro p hp; simp only [List.mem_singleton] at hp; subst hp; exact ⟨Nat.le_refl 64, hv⟩) (show 1 ≤ 4 by decide) (by omega)
    have e4 : callD Tryd.prog AB (n + 4) (.fn 80) [pt id 0, fz 1 [[U (v : Int), I 64]]] (newD s2 (.row (wr u.lead u.trail))) = some [(I 0, s4)] := e4
    obtain ⟨r1, r2, r3, r4, r5, r6, r7, r8⟩ := fin u.lead u.trail s4 _ hW4 hK4 (xnext u v) (by unfold xnext; rw [if_pos h0, h0])
    simp only [f49, oO, bindS, many1, jnE, boolS, gdB, fst', snd', b1, b2, m1, e78, uop_not, Bool.not_true, condF, fld100_1, m2, x1, e79, b3, st3, m3, eqO_s, Bool.and_true, condT, fld100_0, g0, bop_eql, hz, decide_true, bl155, bs170_1, e4, b_neq, r2, r3, r4, r5, r6]
    refine One.ret ⟨rfl, ?_, r8⟩
    have : xput u v = partB [(v, 64)] := by unfold xput partB; rw [if_pos h0]; simp
    rw [this]
    exact r7
  · have hz : ¬ (u.n : Int) = 0 := by omega
    by_cases hx0 : v ^^^ u.last = 0
    · have hxz : ((v ^^^ u.last : Nat) : Int) = 0 := by rw [hx0]; rfl
      obtain ⟨s4, e4, hW4, hK4⟩ := c80 (n := n + 1) (m := 1) [(0, 1)] (hW3 u.lead u.trail) (by intro p hp; simp only [List.mem_singleton] at hp; subst hp; exact ⟨by decide, by decide⟩) (by decide) (by omega)
      have e4 : callD Tryd.prog AB (n + 4) (.fn 80) [pt id 0, fz 1 [[U 0, I 1]]] (newD s2 (.row (wr u.lead u.trail))) = some [(I 0, s4)] := e4
      obtain ⟨r1, r2, r3, r4, r5, r6, r7, r8⟩ := fin u.lead u.trail s4 _ hW4 hK4 (xnext u v) (by unfold xnext; rw [if_neg h0, if_pos hx0])
      simp only [f49, oO, bindS, many1, jnE, boolS, gdB, fst', snd', b1, b2, m1, e78, uop_not, Bool.not_true, condF, fld100_1, m2, x1, e79, b3, st3, m3, eqO_s, Bool.and_true, condT, fld100_0, g0, bop_eql, hz, decide_false, hxz, decide_true, bl155, bs170_1, e4, b_neq, r2, r3, r4, r5, r6]
      refine One.ret ⟨rfl, ?_, r8⟩
      have : xput u v = partB [(0, 1)] := by unfold xput partB; rw [if_neg h0, if_pos hx0]; rfl
      rw [this]
      exact r7
    · have hxz : ¬ ((v ^^^ u.last : Nat) : Int) = 0 := by omega
      have hlt := lz_tz hx0 hx
      have e82 := fun s => c82 (n := n + 1) (s := s) (v ^^^ u.last) hx0 hx
      have e81 := fun s => oneS (c81 (n := n + 3) (s := s) u.lead u.trail (nlz (v ^^^ u.last)) (ntz (v ^^^ u.last)))
      by_cases hh : vheld u (v ^^^ u.last)
      · have hh' : decide (u.lead < 64 ∧ u.lead ≤ nlz (v ^^^ u.last) ∧ u.trail ≤ ntz (v ^^^ u.last)) = true := decide_eq_true hh
        have hle : u.lead + u.trail ≤ 63 := by have := hh.1; omega
        have e83 := fun s => oneS (c83 (n := n + 3) (s := s) u.lead u.trail (by omega))
        have hsh := shr64 (a := v ^^^ u.last) (k := u.trail) (by omega)
        have hdl : (v ^^^ u.last) / 2 ^ u.trail < 2 ^ 64 := Nat.lt_of_le_of_lt (Nat.div_le_self _ _) hx
        obtain ⟨s4, e4, hW4, hK4⟩ := c80 (n := n + 1) (m := 1) [(2, 2), ((v ^^^ u.last) / 2 ^ u.trail, 64 - u.lead - u.trail)] (hW3 u.lead u.trail) (by
          intro p hp
          simp only [List.mem_cons, List.not_mem_nil, or_false] at hp
          rcases hp with rfl | rfl
          · exact ⟨by decide, by decide⟩
          · exact ⟨by show 64 - u.lead - u.trail ≤ 64; omega, hdl⟩) (show 2 ≤ 4 by decide) (by omega)
        have e4 : callD Tryd.prog AB (n + 4) (.fn 80) [pt id 0, fz 1 [[U 2, I 2], [U (((v ^^^ u.last) / 2 ^ u.trail : Nat) : Int), I ((64 - u.lead - u.trail : Nat) : Int)]]] (newD s2 (.row (wr u.lead u.trail))) = some [(I 0, s4)] := e4
        have e4 := oneS e4
        obtain ⟨r1, r2, r3, r4, r5, r6, r7, r8⟩ := fin u.lead u.trail s4 _ hW4 hK4 (xnext u v) (by unfold xnext; rw [if_neg h0, if_neg hx0, if_pos hh])
        simp only [f49, oO, bindS, many1, jnE, boolS, gdB, fst', snd', b1, b2, m1, e78, uop_not, Bool.not_true, condF, fld100_1, m2, x1, e79, b3, st3, m3, eqO_s, Bool.and_true, condT, fld100_0, g0, bop_eql, hz, decide_false, hxz, gw, oneS (e82 _), e81, hh', bl155, fld151_1, gw1, hsh, e83, bs170_2, e4, b_neq, decide_true, r2, r3, r4, r5, r6]
        refine One.ret ⟨rfl, ?_, r8⟩
        have : xput u v = partB [(2, 2), ((v ^^^ u.last) / 2 ^ u.trail, 64 - u.lead - u.trail)] := by
          unfold xput partB
          rw [if_neg h0, if_neg hx0, if_pos hh]
          simp only [List.map_cons, List.map_nil, List.flatten_cons, List.flatten_nil, List.append_nil]
          rfl
        rw [this]
        exact r7
      · have hh' : decide (u.lead < 64 ∧ u.lead ≤ nlz (v ^^^ u.last) ∧ u.trail ≤ ntz (v ^^^ u.last)) = false := decide_eq_false hh
        generalize hX : v ^^^ u.last = x at *
        generalize hL : nlz x = L at *
        generalize hT : ntz x = T at *
        have e83 := fun s => oneS (c83 (n := n + 3) (s := s) L T (by omega))
        have hsh := shr64 (a := x) (k := T) (by omega)
        have hdl : x / 2 ^ T < 2 ^ 64 := Nat.lt_of_le_of_lt (Nat.div_le_self _ _) hx
        have w1 : IntKind.u64.wrap (L : Int) = (L : Int) := wrap_u64 (by omega) (by omega)
        have w2 : IntKind.i64.wrap (((64 - L - T : Nat) : Int) - 1) = ((64 - L - T - 1 : Nat) : Int) := by rw [wrap_i64 (by omega) (by omega)]; omega
        have w3 : IntKind.u64.wrap ((64 - L - T - 1 : Nat) : Int) = ((64 - L - T - 1 : Nat) : Int) := wrap_u64 (by omega) (by omega)
        obtain ⟨s4, e4, hW4, hK4⟩ := c80 (n := n + 1) (m := 1) [(3, 2), (L, 6), (64 - L - T - 1, 6), (x / 2 ^ T, 64 - L - T)] (hW3 L T) (by
          intro p hp
          simp only [List.mem_cons, List.not_mem_nil, or_false] at hp
          rcases hp with rfl | rfl | rfl | rfl
          · exact ⟨by decide, by decide⟩
          · exact ⟨(show 6 ≤ 64 by decide), by show L < 2 ^ 64; omega⟩
          · exact ⟨(show 6 ≤ 64 by decide), by show 64 - L - T - 1 < 2 ^ 64; omega⟩
          · exact ⟨by show 64 - L - T ≤ 64; omega, hdl⟩) (show 4 ≤ 4 by decide) (by omega)
        have e4 : callD Tryd.prog AB (n + 4) (.fn 80) [pt id 0, fz 1 [[U 3, I 2], [U (L : Int), I 6], [U ((64 - L - T - 1 : Nat) : Int), I 6], [U ((x / 2 ^ T : Nat) : Int), I ((64 - L - T : Nat) : Int)]]] (newD s2 (.row (wr L T))) = some [(I 0, s4)] := e4
        have e4 := oneS e4
        obtain ⟨r1, r2, r3, r4, r5, r6, r7, r8⟩ := fin L T s4 _ hW4 hK4 (xnext u v) (by unfold xnext; rw [if_neg h0, hX, if_neg hx0, if_neg hh, hL, hT])
        simp only [f49, oO, bindS, many1, jnE, boolS, gdB, fst', snd', b1, b2, m1, e78, uop_not, Bool.not_true, condF, fld100_1, m2, x1, e79, b3, st3, m3, eqO_s, Bool.and_true, condT, fld100_0, g0, bop_eql, hz, decide_false, hxz, gw, oneS (e82 _), e82, e81, hh', bl155, fld151_0, fld151_1, gw0, gw1, conv_int u3 u38, w1, e83, b_sub, w2, w3, hsh, bs170_4, Option.map_some, e4, b_neq, decide_true, r2, r3, r4, r5, r6]
        refine One.ret ⟨rfl, ?_, r8⟩
        have : xput u v = partB [(3, 2), (L, 6), (64 - L - T - 1, 6), (x / 2 ^ T, 64 - L - T)] := by
          unfold xput partB
          rw [if_neg h0, hX, if_neg hx0, if_neg hh, hL, hT]
          simp only [List.map_cons, List.map_nil, List.flatten_cons, List.flatten_nil, List.append_nil, List.append_assoc]
          rfl
        rw [this]
        exact r7
end Go.Proofs.YtmhmbmogodofeaaDoor.S

set_option autoImplicit false
set_option linter.unusedVariables false
set_option linter.unusedSimpArgs false
set_option maxRecDepth 100000
namespace Go.Proofs.YtmhmbmogodofeaaDoor.S
open Go.FS Go.RowKit
attribute [local congr] bind_cg cond_cg gd_cg
theorem by_str (n k : Nat) (b : UInt8) : (by' b).map (stripN (k + 1) n) = by' b := rfl
theorem by_bel (n : Nat) (b : UInt8) : ∀ v ∈ by' b, Bel n v := fun v hv => by
  simp only [by', List.mem_cons, List.not_mem_nil, or_false] at hv
  subst hv; exact .int _ _
theorem ld_by {s : SH} (b : UInt8) : loadD Tryd.prog s 5 (fpV (by' b).toArray 0) = some (.int .u8 (b.toNat : Int)) := by rw [load_fp, part_one a5]; rfl
theorem gapp22 {lo : Nat} {s : SH} {v : Value} {m2 : Nat} {xs ys : List UInt8} (h : Grow lo 1 by' s v xs) (hlo : lo ≤ s.n) (hb : xs.length + ys.length ≤ 140737488355328) :
    ∃ v' s', appD Tryd.prog false s 22 22 v (sl by' m2 ys) = some (v', s') ∧ Grow lo 1 by' s' v' (xs ++ ys) ∧ Sm lo s s' ∧ (∀ j, j < s.n → HP.get s.h j ≠ some (.tok xs.length 1) → HP.get s'.h j = HP.get s.h j) :=
  h.app (i := Tryd.t5) hlo u22 u22 (by kernel_rfl) zr5 rfl (by kernel_rfl) (by kernel_rfl) (by decide) by_len (show (xs.length + ys.length) * 1 ≤ _ by omega) hb
theorem bs22 (s : SH) (b : UInt8) : buildSliceD Tryd.prog false s 22 1 [(0, .int .u8 (b.toNat : Int))] = some (sl by' 1 [b], s) := by kernel_rfl
theorem mk22 (s : SH) (c : Int) (h0 : 0 ≤ c) (h1 : c ≤ 140737488355328) : makeSliceD Tryd.prog false s 22 (.int .i64 0) (.int .i64 c) = some (sl by' (s.n + 3) [], newD s (.tok 0 1)) := by
  have hi : Tryd.prog.info? 5 = some Tryd.t5 := by kernel_rfl
  have hb : (Tryd.t5.bytes : Nat) = 1 := by kernel_rfl
  have hs : (Tryd.t5.size : Nat) = 1 := by kernel_rfl
  unfold makeSliceD
  rw [u22]
  simp only [hi, bindS, zr5, hb, hs]
  have e : (decide ((0 : Int) ≤ 0) && decide ((0 : Int) ≤ c) && decide (((1 : Nat) : Int) * c ≤ 140737488355328) && decide (c ≤ 140737488355328) && Nat.beq [Value.int .u8 0].length 1) = true := by
    rw [decide_eq_true h0, decide_eq_true (show ((1 : Nat) : Int) * c ≤ 140737488355328 by omega), decide_eq_true h1]; rfl
  rw [e, condT]
  rfl
theorem wrap_u8 (y : Nat) : IntKind.u8.wrap (y : Int) = (((UInt8.ofNat y).toNat : Nat) : Int) := by
  rw [wrap_us rfl, UInt8.toNat_ofNat']
  exact (Int.natCast_emod y 256).symm
theorem or128 (y : Nat) : bopD Tryd.prog .or 5 (.int .u8 (((UInt8.ofNat y).toNat : Nat) : Int)) (.int .u8 128) = some (.int .u8 (((UInt8.ofNat (y % 128 + 128)).toNat : Nat) : Int)) := by
  rw [bop_int]
  have hlt : (UInt8.ofNat y).toNat < 256 := UInt8.toNat_lt _
  have key : ∀ k : Fin 256, IntKind.u8.wrap (((BitVec.ofInt 8 (k.val : Int) ||| BitVec.ofInt 8 128).toNat : Nat) : Int) = ((k.val % 128 + 128 : Nat) : Int) := by decide +kernel
  have this : IntKind.u8.wrap (((BitVec.ofInt 8 ((UInt8.ofNat y).toNat : Int) ||| BitVec.ofInt 8 128).toNat : Nat) : Int) = (((UInt8.ofNat y).toNat % 128 + 128 : Nat) : Int) := key ⟨_, hlt⟩
  refine Eq.trans (congrArg (fun z => some (Value.int IntKind.u8 z)) this) ?_
  have e : (UInt8.ofNat (y % 128 + 128)).toNat = y % 128 + 128 := ofNat_toNat (by omega)
  rw [e, UInt8.toNat_ofNat']
  congr 3; omega
theorem shr7 (y : Nat) : bopD Tryd.prog .shr 38 (.int .u64 (y : Int)) (.int .u64 7) = some (.int .u64 ((y / 128 : Nat) : Int)) := by
  rw [bop_int]
  simp only [intS]
  rw [if_neg (by decide)]
  have e : ((2 : Int) ^ min (Int.toNat 7) IntKind.u64.bits) = ((128 : Nat) : Int) := by decide
  rw [e, ← Int.ofNat_fdiv]
theorem c86 {n : Nat} {s : SH} (x : Nat) : callD Tryd.prog AB (n + 1) (.fn 86) [.int .u64 (x : Int)] s = some [(.int .u64 (x : Int), s)] := by
  refine cut_call (fn := Tryd.f86) rfl rfl (by kernel_rfl) (v := .int .u64 (x : Int)) (fun _ h => by cases h) (.int _ _) ?_
  show One (bodyD Tryd.prog false _ _ 86 Tryd.f86 _ s) _
  rw [f86_r]
  exact One.ret ⟨rfl, .refl s⟩
theorem c85 {n m : Nat} {s : SH} (bs : List UInt8) (x : Nat) (hx : x < 2 ^ 64) (hb : bs.length + 20 ≤ 140737488355328) :
    ∃ v s', callD Tryd.prog AB (n + 2) (.fn 85) [sl by' m bs, .int .u64 (x : Int), .func (.func 86) #[] #[]] s = some [(v, s')] ∧ Grow s.n 1 by' s' v (bs ++ vput x) ∧ Sm s.n s s' := by
  rw [call_fn (fn := Tryd.f85) rfl rfl (by kernel_rfl)]
  suffices h : One (bodyD Tryd.prog false (callD Tryd.prog AB (n + 1)) AB.N 85 Tryd.f85 [sl by' m bs, .int .u64 (x : Int), .func (.func 86) #[] #[]] s) fun v s' => Grow s.n 1 by' s' v (bs ++ vput x) ∧ Sm s.n s s' by
    obtain ⟨v, s', e, h1, h2⟩ := h
    exact ⟨v, s', e, h1, h2⟩
  rw [f85_r]
  have hw : IntKind.i64.wrap ((bs.length : Int) + 10) = (bs.length : Int) + 10 := wrap_i64 (by omega) (by omega)
  have g0 : Grow s.n 1 by' (newD s (.tok 0 1)) (sl by' (s.n + 3) []) [] := .inr ⟨s.n, Nat.le_refl _, by rw [newD_n]; omega, rfl, get_new rfl⟩
  obtain ⟨v1, s1, e1, w1, w2, w3⟩ := gapp22 (m2 := m) (ys := bs) g0 (by rw [newD_n]; omega) (by simp only [List.length_nil]; omega)
  have hs1 : Sm s.n s s1 := ((Sm.refl s.n s).new (Nat.le_refl _) _).trans w2
  rw [List.nil_append] at w1
  have tg : ∀ args, tgtD (.func (.func 86) #[] #[]) args = some (.fn 86, args) := fun args => by simp [tgtD]
  simp only [f85, o_bool, o_alloc, o_box, o_build, o_buildSlice, o_load, o_store, o_nilCheck, o_bop, o_uop, o_conv, o_slc, o_fieldAddr, o_field, o_indexAddr, o_index, o_extract, o_lookup, o_mapUpdate, o_makeMap, o_mapEntry, o_entryStore, o_delete, o_len, o_append, o_min, o_max, o_tgt, bindS, many1, jnE, boolS, gdB, fst', snd', len_sl u22, bop_add, hw, o_makeSlice, mk22 s _ (show 0 ≤ (bs.length : Int) + 10 by omega) (by omega), e1, tg, c86]
  refine loop_rule (fun d (y : Value × Value) (s' : SH) => ∃ pre, y.2 = .int .u64 (d : Int) ∧ d ≤ x ∧ pre ++ vput d = vput x ∧ Grow s.n 1 by' s' y.1 (bs ++ pre) ∧ Sm s.n s s') (fun r => One r fun v s' => Grow s.n 1 by' s' v (bs ++ vput x) ∧ Sm s.n s s') ?_ _ x (v1, .int .u64 (x : Int)) s1 ⟨[], rfl, Nat.le_refl _, rfl, by rw [List.append_nil]; exact w1, hs1⟩ (by show x < 2 ^ 64; exact hx)
  rintro d ⟨y1, y2⟩ s' ⟨pre, h1, h2, h3, h4, h5⟩ nx hnx
  simp only at h1 h4
  subst h1
  have hpl : pre.length ≤ 10 := by
    have := vput_len10 hx
    have := congrArg List.length h3
    rw [List.length_append] at this; omega
  by_cases hd : d ≤ 127
  · have hng : ¬ ((d : Int) > 127) := by omega
    obtain ⟨v2, s2, e2, z1, z2, z3⟩ := gapp22 (m2 := 1) (ys := [UInt8.ofNat d]) h4 h5.1 (by rw [List.length_append]; simp only [List.length_singleton]; omega)
    simp only [f85_l0, o_bool, o_alloc, o_box, o_build, o_buildSlice, o_load, o_store, o_nilCheck, o_bop, o_uop, o_conv, o_slc, o_fieldAddr, o_field, o_indexAddr, o_index, o_extract, o_lookup, o_mapUpdate, o_makeMap, o_mapEntry, o_entryStore, o_delete, o_len, o_append, o_min, o_max, o_tgt, bindS, many1, jnE, boolS, gdB, fst', snd', bop_gtr, hng, decide_false, condF, beq_yes, condT, conv_int u38 u5, wrap_u8, bs22, e2]
    refine One.ret ⟨?_, h5.trans z2⟩
    rw [← h3, vput_lo hd, ← List.append_assoc]; exact z1
  · have hg : (d : Int) > 127 := by omega
    obtain ⟨v2, s2, e2, z1, z2, z3⟩ := gapp22 (m2 := 1) (ys := [UInt8.ofNat (d % 128 + 128)]) h4 h5.1 (by rw [List.length_append]; simp only [List.length_singleton]; omega)
    simp only [f85_l0, o_bool, o_alloc, o_box, o_build, o_buildSlice, o_load, o_store, o_nilCheck, o_bop, o_uop, o_conv, o_slc, o_fieldAddr, o_field, o_indexAddr, o_index, o_extract, o_lookup, o_mapUpdate, o_makeMap, o_mapEntry, o_entryStore, o_delete, o_len, o_append, o_min, o_max, o_tgt, bindS, many1, jnE, boolS, gdB, fst', snd', bop_gtr, hg, decide_true, condT, conv_int u38 u5, wrap_u8, or128, bs22, e2, shr7]
    refine hnx (d / 128) (_, _) _ (by omega) ⟨pre ++ [UInt8.ofNat (d % 128 + 128)], rfl, by omega, ?_, ?_, h5.trans z2⟩
    · rw [← h3, vput_hi hd, List.append_assoc]; rfl
    · rw [← List.append_assoc]; exact z1
theorem c51 {n m : Nat} {s : SH} (bs : List UInt8) (x : Nat) (hx : x < 2 ^ 64) (hb : bs.length + 20 ≤ 140737488355328) :
    ∃ v s', callD Tryd.prog AB (n + 3) (.fn 51) [sl by' m bs, .int .u64 (x : Int)] s = some [(v, s')] ∧ Grow s.n 1 by' s' v (bs ++ vput x) ∧ Sm s.n s s' := by
  obtain ⟨v, s', e, h1, h2⟩ := c85 (n := n) (m := m) (s := s) bs x hx hb
  refine ⟨v, s', ?_, h1, h2⟩
  rw [call_fn (fn := Tryd.f51) rfl rfl (by kernel_rfl)]
  show bodyD Tryd.prog false _ _ 51 Tryd.f51 _ s = _
  rw [f51_r]
  simp only [f51, e, bindS, many1]
/-- Bytes with their length. -/
theorem c50 {n m m' : Nat} {s : SH} (bs xs : List UInt8) (hx : xs.length ≤ 65536) (hb : bs.length + xs.length + 20 ≤ 140737488355328) :
    ∃ v s', callD Tryd.prog AB (n + 4) (.fn 50) [sl by' m bs, sl by' m' xs] s = some [(.tuple #[v, .int .i64 0], s')] ∧ Grow s.n 1 by' s' v (bs ++ (vput xs.length ++ xs)) ∧ Sm s.n s s' := by
  rw [call_fn (fn := Tryd.f50) rfl rfl (by kernel_rfl)]
  show ∃ v s', bodyD Tryd.prog false _ _ 50 Tryd.f50 _ s = _ ∧ _
  rw [f50_r]
  have hng : ¬ ((xs.length : Int) > 65536) := by omega
  have hw : IntKind.u64.wrap (xs.length : Int) = (xs.length : Int) := wrap_u64 (by omega) (by omega)
  obtain ⟨v, s1, e, h1, h2⟩ := c51 (n := n) (m := m) (s := s) bs xs.length (by omega) (by omega)
  obtain ⟨v2, s2, e2, z1, z2, z3⟩ := gapp22 (m2 := m') (ys := xs) h1 h2.1 (by rw [List.length_append]; have := vput_len10 (x := xs.length) (by omega); omega)
  simp only [f50, o_bool, o_alloc, o_box, o_build, o_buildSlice, o_load, o_store, o_nilCheck, o_bop, o_uop, o_conv, o_slc, o_fieldAddr, o_field, o_indexAddr, o_index, o_extract, o_lookup, o_mapUpdate, o_makeMap, o_mapEntry, o_entryStore, o_delete, o_len, o_append, o_min, o_max, o_tgt, bindS, many1, jnE, boolS, gdB, fst', snd', len_sl u22, bop_gtr, hng, decide_false, condF, conv_int u3 u38, hw, e, e2]
  exact ⟨v2, s2, rfl, by rw [← List.append_assoc]; exact z1, h2.trans z2⟩
end Go.Proofs.YtmhmbmogodofeaaDoor.S

set_option autoImplicit false
set_option linter.unusedVariables false
set_option linter.unusedSimpArgs false
set_option maxRecDepth 100000
namespace Go.Proofs.YtmhmbmogodofeaaDoor.S
open Go.FS Go.RowKit
attribute [local congr] bind_cg cond_cg gd_cg

/-! Sums. -/
abbrev W (a : Int) : Value := .int .u32 a
theorem wrap_u32 {n : Int} (h0 : 0 ≤ n) (h : n < 2 ^ 32) : IntKind.u32.wrap n = n := by
  rw [wrap_us rfl]
  show n % 4294967296 = n
  omega
theorem bv32 {a : Nat} (h : a < 2 ^ 32) : (BitVec.ofInt 32 (a : Int)).toNat = a := by rw [BitVec.ofInt_natCast, BitVec.toNat_ofNat, Nat.mod_eq_of_lt h]
theorem xor32 {a b : Nat} (ha : a < 2 ^ 32) (hb : b < 2 ^ 32) : bopD Tryd.prog .xor 127 (W (a : Int)) (W (b : Int)) = some (W ((a ^^^ b : Nat) : Int)) := by
  rw [bop_int]
  have hlt : a ^^^ b < 2 ^ 32 := Nat.xor_lt_two_pow ha hb
  have e3 : (BitVec.ofInt 32 (a : Int) ^^^ BitVec.ofInt 32 (b : Int)).toNat = a ^^^ b := by rw [BitVec.toNat_xor, bv32 ha, bv32 hb]
  exact congrArg (fun z => some (Value.int IntKind.u32 z)) (show IntKind.u32.wrap (((BitVec.ofInt 32 (a : Int) ^^^ BitVec.ofInt 32 (b : Int)).toNat : Nat) : Int) = _ by rw [e3, wrap_u32 (by omega) (by omega)])
theorem and32 {a b : Nat} (ha : a < 2 ^ 32) (hb : b < 2 ^ 32) : bopD Tryd.prog .and 127 (W (a : Int)) (W (b : Int)) = some (W ((a &&& b : Nat) : Int)) := by
  rw [bop_int]
  have hlt : a &&& b < 2 ^ 32 := Nat.and_lt_two_pow _ hb
  have e3 : (BitVec.ofInt 32 (a : Int) &&& BitVec.ofInt 32 (b : Int)).toNat = a &&& b := by rw [BitVec.toNat_and, bv32 ha, bv32 hb]
  exact congrArg (fun z => some (Value.int IntKind.u32 z)) (show IntKind.u32.wrap (((BitVec.ofInt 32 (a : Int) &&& BitVec.ofInt 32 (b : Int)).toNat : Nat) : Int) = _ by rw [e3, wrap_u32 (by omega) (by omega)])
theorem shr32 {a k : Nat} {j : IntKind} (hk : k ≤ 32) : bopD Tryd.prog .shr 127 (W (a : Int)) (.int j (k : Int)) = some (W ((a / 2 ^ k : Nat) : Int)) := by
  rw [bop_int]
  simp only [intS, IntKind.bits]
  rw [if_neg (by omega), Int.toNat_natCast, Nat.min_eq_left hk]
  have e : ((2 : Int) ^ k) = ((2 ^ k : Nat) : Int) := by simp
  rw [e, ← Int.ofNat_fdiv]
theorem polW : (W 2197175160 : Value) = W ((pol : Nat) : Int) := rfl
theorem cr_op {a : Nat} (ha : a < 2 ^ 32) : ∃ b c d : Nat, bopD Tryd.prog .shr 127 (W (a : Int)) (.int .u64 1) = some (W (b : Int)) ∧ bopD Tryd.prog .and 127 (W (a : Int)) (W 1) = some (W (c : Int)) ∧ uopD Tryd.prog .neg (W (c : Int)) = some (W (d : Int)) ∧ ∃ e : Nat, bopD Tryd.prog .and 127 (W (d : Int)) (W 2197175160) = some (W (e : Int)) ∧ bopD Tryd.prog .xor 127 (W (b : Int)) (W (e : Int)) = some (W ((cr1 a : Nat) : Int)) := by
  have h1 := shr32 (a := a) (k := 1) (j := .u64) (by decide)
  have h2 := and32 (a := a) (b := 1) ha (by decide)
  rw [Nat.and_one_is_mod] at h2
  rcases Nat.mod_two_eq_zero_or_one a with h | h
  · refine ⟨a / 2, 0, 0, h1, by rw [h] at h2; exact h2, by rw [uop_neg]; rfl, 0, ?_, ?_⟩
    · rw [polW]
      have := and32 (a := 0) (b := pol) (by decide) pol_lt
      rw [Nat.zero_and] at this
      exact this
    · have := xor32 (a := a / 2) (b := 0) (by omega) (by decide)
      rw [Nat.xor_zero] at this
      unfold cr1
      rw [if_neg (by omega)]
      exact this
  · refine ⟨a / 2, 1, ones32, h1, by rw [h] at h2; exact h2, by rw [uop_neg]; rfl, pol, ?_, ?_⟩
    · rw [polW]
      have := and32 (a := ones32) (b := pol) (by decide) pol_lt
      rw [show ones32 &&& pol = pol from by decide] at this
      exact this
    · have := xor32 (a := a / 2) (b := pol) (by omega) pol_lt
      unfold cr1
      rw [if_pos h]
      exact this
theorem ldw {s : SH} {id : Nat} {v : Value} {l : List Value} (h : HP.get s.h id = some (.row (v :: l))) : loadD Tryd.prog s 127 (pt id 0) = some v := by rw [load_row h, part_one a127]; rfl
theorem stw {s : SH} {id : Nat} {v : Value} {a : Int} (h : HP.get s.h id = some (.row [v])) : storeD Tryd.prog s 127 (pt id 0) (W a) = some (putD s id (.row [W a])) := by
  rw [store_row (l := [W a]) z127 h rfl rfl rfl (by simp)]; rfl
theorem bxw (s : SH) (a : Int) : boxD s (W a) = some (pt s.n 0, newD s (.row [W a])) := box_at rfl rfl
theorem bodied113 : bodied Tryd.prog 113 = true := by kernel_rfl
theorem c113 {n l a : Nat} {s : SH} {r : Nat} (hr : r < 2 ^ 32) (J : Nat → SH → Prop)
    (h0 : J 0 s) (hJ : ∀ i s', J i s' → HP.get s'.h a = some (.row [W (crN i r : Nat)]))
    (hstep : ∀ i (h1 : i < 8) s', J i s' → ∃ s3, callD Tryd.prog AB (n + 1) (.yld l) [W (crN (i + 1) r : Nat)] (putD s' a (.row [W (crN (i + 1) r : Nat)])) = some [(.bool true, s3)] ∧ J (i + 1) s3) :
    One (callD Tryd.prog AB (n + 2) (.fn 113) [.func (.yield l) #[] #[], pt a 0] s) fun _ s' => J 8 s' := by
  rw [call_fn (fn := Tryd.f113) rfl rfl (by kernel_rfl)]
  show One (bodyD Tryd.prog false _ _ 113 Tryd.f113 _ s) _
  rw [f113_r]
  simp only [f113, oO, bindS, many1, jnE, boolS, gdB, fst', snd']
  refine list_one (List.replicate 8 ()) (fun i (x : Value) (s' : SH) => x = I (i : Int) ∧ J i s') ?_ ?_ ⟨rfl, h0⟩ (by rw [List.length_replicate]; show _ < 2 ^ 64; omega)
  · rintro i hi x s' ⟨e1, hj⟩ nx hnx
    rw [List.length_replicate] at hi
    subst e1
    have hlt : (i : Int) < 8 := by omega
    have hw : IntKind.i64.wrap ((i : Int) + 1) = ((i + 1 : Nat) : Int) := by rw [wrap_i64 (by omega) (by omega)]; rfl
    obtain ⟨s3, hy, hy1⟩ := hstep i hi s' hj
    have g := hJ i s' hj
    obtain ⟨b, c, d, k1, k2, k3, e, k4, k5⟩ := cr_op (crN_lt hr i)
    have k5 : bopD Tryd.prog .xor 127 (W (b : Int)) (W (e : Int)) = some (W ((crN (i + 1) r : Nat) : Int)) := k5
    simp only [f113_l0, oO, bindS, many1, jnE, boolS, gdB, fst', snd', bop_lss, hlt, decide_true, condT, ldw g, k1, k2, k3, k4, k5, stw g, ldw (get_put_same (s := s') a), tgt_yld, hy, uop_not, Bool.not_true, condF, bop_add, hw]
    exact hnx _ _ ⟨rfl, hy1⟩
  · rintro x s' ⟨e1, hj⟩ nx
    rw [List.length_replicate] at e1 hj
    subst e1
    have hnlt : ¬ (((8 : Nat) : Int) < 8) := by omega
    simp only [f113_l0, oO, bindS, many1, jnE, boolS, gdB, fst', snd', bop_lss, hnlt, decide_false, condF, beq_yes, condT]
    exact One.ret hj
theorem c111 {n : Nat} {s : SH} (r : Nat) (hr : r < 2 ^ 32) : callD Tryd.prog AB (n + 4) (.fn 111) [W (r : Int)] s = some [(W (crN 8 r : Nat), s)] := by
  refine cut_plain (fn := Tryd.f111) rfl rfl (by kernel_rfl) (fun _ h => by cases h) (.int _ _) ?_
  show One (bodyD Tryd.prog false _ _ 111 Tryd.f111 _ _) _
  rw [f111_r]
  let s1 : SH := newD s (.row [W (r : Int)])
  let s2 : SH := newD s1 (.row [W (r : Int)])
  have h112 : callD Tryd.prog AB (n + 3) (.fn 112) [W (r : Int)] s1 = some [(.func (.func 113) #[] #[pt s1.n 0], s2)] := by
    rw [call_fn (fn := Tryd.f112) rfl rfl (by kernel_rfl)]
    show bodyD Tryd.prog false _ _ 112 Tryd.f112 _ s1 = _
    rw [f112_r]
    simp only [f112, oO, bindS, many1, jnE, boolS, gdB, fst', snd', bxw]
    rfl
  have b1 : boxD s (W (r : Int)) = some (pt s.n 0, s1) := bxw s _
  have g1 : HP.get s1.h s.n = some (.row [W (r : Int)]) := get_n0 s _
  have n1 : s1.n = s.n + 1 := rfl
  have n2 : s2.n = s.n + 2 := rfl
  simp only [f111, oO, bindS, many1, jnE, boolS, gdB, fst', snd', b1, ldw g1, h112]
  generalize htl : [W (r : Int), pt s.n 0, W 0, undefV, W (r : Int), _, undefV, undefV, undefV] = tl
  have hrun := c113 (n := n + 1) (l := s2.n) (a := s1.n) (s := newD s2 (.loop 0 none 111 tl [6] (cdp Tryd.f111 [1, 0, 1, 0, 0]) (cdp Tryd.f111 [1, 0, 1, 0, 1]))) hr
    (fun i s' => Ext s s' ∧ s2.n + 1 ≤ s'.n ∧ HP.get s'.h s.n = some (.row [W (crN i r : Nat)]) ∧ HP.get s'.h s1.n = some (.row [W (crN i r : Nat)]) ∧ HP.get s'.h s2.n = some (.loop 0 none 111 tl [6] (cdp Tryd.f111 [1, 0, 1, 0, 0]) (cdp Tryd.f111 [1, 0, 1, 0, 1])))
    ⟨ext3' s _ _ _, Nat.le_refl _, get_n2 s _ _ _, get_n1 s1 _ _, get_n0 s2 _⟩ (fun i s' h => h.2.2.2.1) ?_
  · obtain ⟨v, s6, hC, q1, q2, q3, q4, q5⟩ := hrun
    have htg : tgtD (.func (.func 113) #[] #[pt s1.n 0]) [.func (.yield s2.n) #[] #[]] = some (.fn 113, [.func (.yield s2.n) #[] #[], pt s1.n 0]) := rfl
    rw [rng_none htg bodied113 hC q5 (by decide)]
    have : loadD Tryd.prog (delD s6 s2.n) 127 (pt s.n 0) = some (W (crN 8 r : Nat)) := ldw (by rw [get_del (by omega), q3])
    rw [this, bindS]
    exact One.ret ⟨rfl, ⟨by rw [delD_n]; exact q1.1, fun j hj => by rw [get_del (by omega)]; exact q1.2 j hj⟩⟩
  · rintro i hi s' ⟨k1, k2, k3, k4, k5⟩
    have k5' : HP.get (putD s' s1.n (.row [W (crN (i + 1) r : Nat)])).h s2.n = some (.loop 0 none 111 tl [6] (cdp Tryd.f111 [1, 0, 1, 0, 0]) (cdp Tryd.f111 [1, 0, 1, 0, 1])) := by rw [get_put_other (by omega), k5]
    have hrd : ∀ s7 : SH, HP.get s7.h s2.n = some (.loop 0 none 111 tl [6] (cdp Tryd.f111 [1, 0, 1, 0, 0]) (cdp Tryd.f111 [1, 0, 1, 0, 1])) → roundD Tryd.prog AB.row (callD Tryd.prog AB (n + 1)) AB.N s2.n [W (crN (i + 1) r : Nat)] s7 = f111_r0 (dOps Tryd.prog) (callD Tryd.prog AB (n + 1)) AB.N s2.n (pt s.n 0) (W (crN (i + 1) r : Nat)) s7 := by
      intro s7 h7
      subst htl
      exact f111_r0_e rfl (loop_of h7) _
    rw [call_yld, hrd _ k5']
    have g6 : HP.get (putD (putD s' s1.n (.row [W (crN (i + 1) r : Nat)])) s2.n (.loop 1 none 111 tl [6] (cdp Tryd.f111 [1, 0, 1, 0, 0]) (cdp Tryd.f111 [1, 0, 1, 0, 1]))).h s.n = some (.row [W (crN i r : Nat)]) := by rw [get_put_other (by omega), get_put_other (by omega), k3]
    have g7 : HP.get (putD (putD (putD s' s1.n (.row [W (crN (i + 1) r : Nat)])) s2.n (.loop 1 none 111 tl [6] (cdp Tryd.f111 [1, 0, 1, 0, 0]) (cdp Tryd.f111 [1, 0, 1, 0, 1]))) s.n (.row [W (crN (i + 1) r : Nat)])).h s2.n = some (.loop 1 none 111 tl [6] (cdp Tryd.f111 [1, 0, 1, 0, 0]) (cdp Tryd.f111 [1, 0, 1, 0, 1])) := by rw [get_put_other (by omega), get_put_same]
    simp only [f111_r0, oO, bindS, many1, jnE, boolS, gdB, fst', snd', begin_of k5', stw g6, setLoop_of g7, Option.map_some]
    refine ⟨_, rfl, ?_, by rw [putD_n, putD_n, putD_n, putD_n]; exact k2, ?_, ?_, get_put_same _⟩
    · exact (((k1.put (by omega) _).put (by omega) _).put (Nat.le_refl _) _).put (by omega) _
    · rw [get_put_other (by omega), get_put_same]
    · rw [get_put_other (by omega), get_put_other (by omega), get_put_other (by omega), get_put_same]
theorem cvt8 (s : SH) (b : UInt8) : convertD Tryd.prog false s 5 127 (.int .u8 (b.toNat : Int)) = some (W (b.toNat : Int), s) := by
  have := b.toNat_lt
  rw [conv_int u5 u127, wrap_u32 (by omega) (by omega)]
theorem not32 {a : Nat} (ha : a < 2 ^ 32) : uopD Tryd.prog .xor (W (a : Int)) = some (W ((a ^^^ ones32 : Nat) : Int)) := by
  have h2 : uopD Tryd.prog .xor (W (a : Int)) = some (W (IntKind.u32.wrap (((BitVec.ofInt 32 (ones32 : Int) ^^^ BitVec.ofInt 32 (a : Int)).toNat : Nat) : Int))) := rfl
  have h1 : ones32 < 2 ^ 32 := by decide
  have h3 := xor32 h1 ha
  rw [h2, Nat.xor_comm a, BitVec.toNat_xor, bv32 h1, bv32 ha, wrap_u32 (by omega) (by have := Nat.xor_lt_two_pow h1 ha; omega)]
theorem c103 {n m : Nat} {s : SH} (r : Nat) (hr : r < 2 ^ 32) (B : List UInt8) (hB : B.length < 2 ^ 62) : callD Tryd.prog AB (n + 5) (.fn 103) [W (r : Int), sl by' m B] s = some [(W ((crMore (r ^^^ ones32) B ^^^ ones32 : Nat) : Int), s)] := by
  rw [call_fn (fn := Tryd.f103) rfl rfl (by kernel_rfl)]
  suffices h : One (bodyD Tryd.prog false (callD Tryd.prog AB (n + 4)) AB.N 103 Tryd.f103 [W (r : Int), sl by' m B] s) fun v s' => v = W ((crMore (r ^^^ ones32) B ^^^ ones32 : Nat) : Int) ∧ s' = s by
    obtain ⟨v, s', e, rfl, rfl⟩ := h
    exact e
  rw [f103_r]
  have h1 : r ^^^ ones32 < 2 ^ 32 := Nat.xor_lt_two_pow hr (by decide)
  simp only [f103, oO, bindS, many1, jnE, boolS, gdB, fst', snd', not32 hr, len_sl u22]
  generalize r ^^^ ones32 = q at h1
  refine list_one B (fun i (x : Value × Value × Value) (s' : SH) => s' = s ∧ x.2.2 = I (i : Int) ∧ x.1 = W (crMore q (B.take i) : Nat)) ?_ ?_ ⟨rfl, rfl, rfl⟩ (by show B.length < 2 ^ 64; omega)
  · rintro i hi ⟨x1, x2, x3⟩ s' ⟨rfl, e2, e3⟩ nx hnx
    simp only at e2 e3
    subst e2 e3
    have hlt : (i : Int) < B.length := by omega
    have hw : IntKind.i64.wrap ((i : Int) + 1) = ((i + 1 : Nat) : Int) := by rw [wrap_i64 (by omega) (by omega)]; rfl
    have hq := crMore_lt (B := B.take i) h1
    have hx := xor32 hq (show B[i].toNat < 2 ^ 32 from Nat.lt_trans B[i].toNat_lt (by decide))
    have e111 := c111 (n := n) (s := s') _ (crX_lt hq B[i])
    rw [← crMore_snoc] at e111
    have ht : B.take i ++ [B[i]] = B.take (i + 1) := (List.take_succ_eq_append_getElem hi).symm
    rw [ht] at e111
    simp only [f103_l0, oO, bindS, many1, jnE, boolS, gdB, fst', snd', bop_lss, hlt, decide_true, condT, ixs22 by_len hi, ld_by, cvt8, hx, e111, bop_add, hw]
    exact hnx (_, _, _) _ ⟨rfl, rfl, rfl⟩
  · rintro ⟨x1, x2, x3⟩ s' ⟨rfl, e2, e3⟩ nx
    simp only at e2 e3
    subst e2 e3
    have hnlt : ¬ ((B.length : Int) < B.length) := by omega
    rw [List.take_length]
    simp only [f103_l0, oO, bindS, many1, jnE, boolS, gdB, fst', snd', bop_lss, hnlt, decide_false, condF, beq_yes, condT, not32 (crMore_lt (B := B) h1)]
    exact One.ret ⟨rfl, rfl⟩
theorem c89 {n m : Nat} {s : SH} (B : List UInt8) (hB : B.length < 2 ^ 62) : callD Tryd.prog AB (n + 6) (.fn 89) [sl by' m B] s = some [(W (crSum B : Nat), s)] := by
  rw [call_fn (fn := Tryd.f89) rfl rfl (by kernel_rfl)]
  show bodyD Tryd.prog false _ _ 89 Tryd.f89 _ s = _
  rw [f89_r]
  have h := c103 (n := n) (m := m) (s := s) 0 (by decide) B hB
  rw [Nat.zero_xor] at h
  have h : callD Tryd.prog AB (n + 5) (.fn 103) [.int .u32 0, sl by' m B] s = some [(W ((crMore ones32 B ^^^ ones32 : Nat) : Int), s)] := h
  simp only [f89, oO, bindS, many1, jnE, boolS, gdB, fst', snd', h]
  rfl
end Go.Proofs.YtmhmbmogodofeaaDoor.S
