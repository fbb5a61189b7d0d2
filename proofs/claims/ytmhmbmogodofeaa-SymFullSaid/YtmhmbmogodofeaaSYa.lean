/- slices.Sort of texts, as an answer that the machine is known to give. -/
import Derived.Shelf.SortG.Plain
import Derived.Shelf.SortG.SortNone
import Derived.Test.YtmhmbmogodofeaaRows
import Derived.Test.YtmhmbmogodofeaaFx
import Derived.Test.YtmhmbmogodofeaaP15
set_option autoImplicit false
set_option linter.unusedVariables false
namespace Go.Proofs.Ytmhmbmogodofeaa.T
open Go.Shelf Go.RowKit
def laysSort_ren : Go.Shelf.Ren := ⟨fun | 54 => 82 | 64 => 132 | 65 => 131 | 78 => 172 | 79 => 173 | 80 => 164 | 81 => 165 | 82 => 166 | 83 => 167 | 84 => 168 | 85 => 169 | 61 => 134 | 86 => 170 | 87 => 171 | 93 => 202 | 89 => 203 | 90 => 204 | 94 => 205 | 95 => 206 | 69 => 162 | 97 => 213 | n => n, fun | 25 => 45 | 26 => 9 | 3 => 3 | 51 => 201 | 0 => 0 | 67 => 237 | 69 => 70 | 4 => 4 | 61 => 231 | 60 => 230 | 44 => 56 | 5 => 5 | 9 => 9 | 75 => 261 | 79 => 264 | 83 => 271 | 84 => 272 | n => n, fun | n => n⟩
theorem laysSort : Go.Proofs.SlLaysN.n54 Try.prog laysSort_ren := {
  mixed := by kernel_rfl
  f54 := ⟨Try.f82.name, by decide, Try.func82.trans (congrArg some (by kernel_rfl))⟩
  f61 := ⟨Try.f134.name, by decide, Try.func134.trans (congrArg some (by kernel_rfl))⟩
  f64 := Try.func132.trans (congrArg some (by kernel_rfl))
  f65 := ⟨Try.f131.name, by decide, Try.func131.trans (congrArg some (by kernel_rfl))⟩
  f69 := ⟨Try.f162.name, by decide, Try.func162.trans (congrArg some (by kernel_rfl))⟩
  f78 := Try.func172.trans (congrArg some (by kernel_rfl))
  f79 := Try.func173.trans (congrArg some (by kernel_rfl))
  f80 := ⟨Try.f164.name, by decide, Try.func164.trans (congrArg some (by kernel_rfl))⟩
  f81 := ⟨Try.f165.name, by decide, Try.func165.trans (congrArg some (by kernel_rfl))⟩
  f82 := ⟨Try.f166.name, by decide, Try.func166.trans (congrArg some (by kernel_rfl))⟩
  f83 := ⟨Try.f167.name, by decide, Try.func167.trans (congrArg some (by kernel_rfl))⟩
  f84 := ⟨Try.f168.name, by decide, Try.func168.trans (congrArg some (by kernel_rfl))⟩
  f85 := ⟨Try.f169.name, by decide, Try.func169.trans (congrArg some (by kernel_rfl))⟩
  f86 := ⟨Try.f170.name, by decide, Try.func170.trans (congrArg some (by kernel_rfl))⟩
  f87 := ⟨Try.f171.name, by decide, Try.func171.trans (congrArg some (by kernel_rfl))⟩
  f89 := Try.func203.trans (congrArg some (by kernel_rfl))
  f90 := Try.func204.trans (congrArg some (by kernel_rfl))
  f93 := ⟨Try.f202.name, by decide, Try.func202.trans (congrArg some (by kernel_rfl))⟩
  f94 := ⟨Try.f205.name, by decide, Try.func205.trans (congrArg some (by kernel_rfl))⟩
  f95 := ⟨Try.f206.name, by decide, Try.func206.trans (congrArg some (by kernel_rfl))⟩
  f97 := ⟨Try.f213.name, by decide, Try.func213.trans (congrArg some (by kernel_rfl))⟩
  t0 := Try.underlying0
  a0 := Try.isAgg0
  z0 := Try.sizeOf0
  v0 := Try.zeroValue0
  t3 := Try.underlying3
  a3 := Try.isAgg3
  z3 := Try.sizeOf3
  v3 := Try.zeroValue3
  t4 := Try.underlying4
  a4 := Try.isAgg4
  z4 := Try.sizeOf4
  v4 := Try.zeroValue4
  t5 := Try.underlying5
  a5 := Try.isAgg5
  z5 := Try.sizeOf5
  v5 := Try.zeroValue5
  t9 := Try.underlying9
  a9 := Try.isAgg9
  z9 := Try.sizeOf9
  v9 := Try.zeroValue9
  t25 := Try.underlying45
  a25 := Try.isAgg45
  z25 := Try.sizeOf45
  v25 := Try.zeroValue45
  t26 := Try.underlying9
  a26 := Try.isAgg9
  z26 := Try.sizeOf9
  v26 := Try.zeroValue9
  t44 := Try.underlying56
  a44 := Try.isAgg56
  z44 := Try.sizeOf56
  v44 := Try.zeroValue56
  t51 := Try.underlying201
  a51 := Try.isAgg201
  z51 := Try.sizeOf201
  v51 := Try.zeroValue201
  t60 := Try.underlying230
  a60 := Try.isAgg230
  z60 := Try.sizeOf230
  v60 := Try.zeroValue230
  t61 := Try.underlying231
  a61 := Try.isAgg231
  z61 := Try.sizeOf231
  v61 := Try.zeroValue231
  t67 := Try.underlying237
  a67 := Try.isAgg237
  z67 := Try.sizeOf237
  v67 := Try.zeroValue237
  t69 := Try.underlying70
  a69 := Try.isAgg70
  z69 := Try.sizeOf70
  v69 := Try.zeroValue70
  t75 := Try.underlying261
  a75 := Try.isAgg261
  z75 := Try.sizeOf261
  v75 := Try.zeroValue261
  t79 := Try.underlying264
  a79 := Try.isAgg264
  z79 := Try.sizeOf264
  v79 := Try.zeroValue264
  t83 := Try.underlying271
  a83 := Try.isAgg271
  z83 := Try.sizeOf271
  v83 := Try.zeroValue271
  t84 := Try.underlying272
  a84 := Try.isAgg272
  z84 := Try.sizeOf272
  v84 := Try.zeroValue272 }
open Go.FS
variable {H : HeapI}
abbrev Str := List UInt8
/-- So many texts of these cells. -/
def strsOf : Nat → List Value → Option (List Str)
  | 0, _ => some []
  | k + 1, .string b :: r => (strsOf k r).map (b.data.toList :: ·)
  | _ + 1, _ => none
theorem strsOf_get : ∀ {n : Nat} {r : List Value} {L : List Str}, strsOf n r = some L → L.length = n ∧ ∀ k (hk : k < L.length), r[k]? = some (encStr L[k])
  | 0, r, L, h => by
    have h : some [] = some L := h
    injection h with h
    subst h
    exact ⟨rfl, fun k hk => absurd hk (Nat.not_lt_zero _)⟩
  | n + 1, r, L, h => by
    match r, h with
    | .string a :: r, h =>
      have h : (strsOf n r).map (a.data.toList :: ·) = some L := h
      obtain ⟨M, hM, rfl⟩ := Option.map_eq_some_iff.1 h
      obtain ⟨h1, h2⟩ := strsOf_get hM
      refine ⟨by simp [h1], fun k hk => ?_⟩
      cases k with
      | zero =>
        show some (Value.string a) = some (Value.string ⟨a.data.toList.toArray⟩)
        rw [Array.toArray_toList]
      | succ k =>
        have := h2 k (by simpa using hk)
        simpa using this
def sortL (L : List Str) : List Str := S.isrt L
theorem sortL_len (L : List Str) : (sortL L).length = L.length := (S.isrt_perm L).length_eq
def iSort : List Value → St H → Option (Value × St H) := fun args s => match args with
  | [.slice (some ⟨_, 0, none⟩) 0 _] => some (.tuple #[], s)
  | [.slice (some ⟨id, 0, none⟩) len _] => (rowD s id).bind fun r => (strsOf len r).bind fun L =>
      bif Nat.beq r.length len && Nat.ble len 1000000 then some (.tuple #[], putD s id (.row ((sortL L).map encStr))) else none
  | _ => none
theorem iSort_ok {args : List Value} {s : St H} {v : Value} {s' : St H} (h : iSort args s = some (v, s')) {E : Env} {w : World} {args' : Array Value} (hW : WRel E s w) (hL : LRel E args args'.toList) : FnOk Try.prog 82 args' w (Ans E w v s') := by
  unfold iSort at h
  split at h
  case h_3 => cases h
  case h_1 id c =>
    injection h with h
    injection h with h1 h2
    subst h1 h2
    obtain ⟨v', l', hl', hv, hrest⟩ := hL.uncons
    have := hrest.unnil
    subst this
    have hargs : args' = #[v'] := by apply Array.toList_inj.1; rw [hl']
    subst hargs
    cases hv with
    | slice _ _ _ _ a cap _ hlc hx ha =>
      refine fnok_of_calls (enters_of Try.func82 (by kernel_rfl) rfl _ _) ((AnyG.slices_Sort_string_none laysSort (some a) cap w).mono ?_)
      rintro e w' hq
      obtain ⟨rfl, hq2⟩ := hq
      have hb : Below w.heap.size w w' := by
        subst hq2
        exact ⟨rfl, rfl, rfl, Nat.le_refl _, fun _ _ => rfl⟩
      exact ⟨E, .tuple _ _ rfl (fun i h => absurd h (Nat.not_lt_zero i)), hW.below hb, .ofBelow hb⟩
  case h_2 id len c hne =>
    obtain ⟨r, hr, h⟩ := bsome h
    obtain ⟨L, hl, h⟩ := bsome h
    cases hc : (Nat.beq r.length len && Nat.ble len 1000000) with
    | false => rw [hc] at h; cases h
    | true =>
      rw [hc] at h
      injection h with h
      injection h with h1 h2
      subst h1 h2
      simp only [Bool.and_eq_true] at hc
      have c1 : r.length = len := Nat.eq_of_beq_eq_true hc.1
      have c2 : len ≤ 1000000 := Nat.le_of_ble_eq_true hc.2
      obtain ⟨hn, hg⟩ := strsOf_get hl
      obtain ⟨v', l', hl', hv, hrest⟩ := hL.uncons
      have := hrest.unnil
      subst this
      have hargs : args' = #[v'] := by apply Array.toList_inj.1; rw [hl']
      subst hargs
      have hrow : H.get s.h id = some (.row r) := by
        unfold rowD at hr
        split at hr
        · rename_i cs hq; injection hr with hr; rw [hq, hr]
        · cases hr
      have hR := hW.row hrow
      have hid : id < E.n := hW.lt id _ hrow
      have hbl : E.blk id < w.heap.size := hW.blt id hid hR.own
      cases hv with
      | slice _ _ _ _ a cap _ hlc hx ha =>
        have hpos : len ≠ 0 := fun e => hne e
        rcases ha with ha | ⟨_, rfl, hroom⟩
        · omega
        have hH : Sort.Holds encStr w (E.blk id) (E.off id) L.toArray := by
          intro j hj
          have hj : j < L.length := by simpa using hj
          have hjr : j < r.length := by omega
          obtain ⟨v', q1, q2⟩ := hR.cell j hjr
          have e := hg j hj
          rw [List.getElem?_eq_getElem hjr] at e
          injection e with e
          rw [e] at q2
          refine ⟨?_, hR.free _ (by have := hR.room; omega)⟩
          rw [q1, flat1_rel rfl q2]
          congr 2
          rw [getElem!_pos _ j (by simpa using hj)]; simp
        have hs := AnyG.slices_Sort_string laysSort (E.blk id) (E.off id) cap L w hH hbl (by omega)
        rw [hn, S.sort_isrt] at hs
        refine fnok_of_calls (enters_of Try.func82 (by kernel_rfl) rfl _ _) (hs.mono ?_)
        rintro e w' ⟨rfl, k, os, rfl⟩
        have hS : (sortL L).length = len := by rw [sortL_len, hn]
        -- the row written
        have hW1 : WRel E (putD s id (.row ((sortL L).map encStr))) (Sort.putRow encStr (Sort.ahead w k) (E.blk id) (E.off id) (sortL L).toArray) := by
          refine hW.put id _ _ hrow hR.own rfl (by simp) (fun b hb => ?_) ?_
          · show ((w.heap).modify (E.blk id) _)[b]? = w.heap[b]?
            rw [Array.getElem?_modify, if_neg (fun e => hb e.symm)]
          · refine ⟨?_, by rw [List.length_map, hS, ← c1]; exact hR.room, fun i hi => ?_, hR.own, fun o ho => ?_⟩
            · obtain ⟨e, he⟩ := hR.shape
              refine ⟨e, ?_⟩
              rw [← he]
              show World.shape? { w with drawn := w.drawn + k, heap := (w.heap).modify (E.blk id) _ } _ = _
              simp only [World.shape?, Array.getElem?_modify, if_true]
              cases hb : w.heap[E.blk id]? with
              | none => rfl
              | some o => cases o <;> first | rfl | (simp only [Option.map_some, Sort.onCells, Sort.putCells, Array.size_mapIdx])
            · rw [List.length_map, hS] at hi
              have hc := Sort.cell?_putRow encStr (Sort.ahead w k) (E.blk id) (E.off id) L.toArray (sortL L).toArray (Sort.holds_ahead _ _ _ _ _ _ hH) (by simp [hS, hn]) i (by simp [hS]; omega)
              refine ⟨_, hc, ?_⟩
              rw [List.getElem_map, getElem!_pos _ i (by simp [hS]; omega)]
              simp only [List.getElem_toArray]
              exact .string _
            · rw [Sort.frozen?_putRow]
              exact hR.free o ho
        have hb : Below (Sort.putRow encStr (Sort.ahead w k) (E.blk id) (E.off id) (sortL L).toArray).heap.size (Sort.putRow encStr (Sort.ahead w k) (E.blk id) (E.off id) (sortL L).toArray) (Sort.grow (Sort.putRow encStr (Sort.ahead w k) (E.blk id) (E.off id) (sortL L).toArray) os) :=
          ⟨rfl, rfl, rfl, by simp, fun b hb => by
            show (_ ++ os)[b]? = _
            rw [Array.getElem?_append_left hb]⟩
        refine ⟨E, .tuple _ _ rfl (fun i h => absurd h (Nat.not_lt_zero i)), hW1.below hb, .refl E, fun i h1 h2 _ => absurd h2 (Nat.not_lt_of_le h1), fun b h => .inl h, rfl, rfl, rfl, by simp, fun b h1 h2 h3 => ?_, fun _ _ _ _ _ => rfl⟩
        have hne := h2 id hid hR.own
        refine (hb.block b (by simpa using h1)).trans ?_
        show ((w.heap).modify (E.blk id) _)[b]? = w.heap[b]?
        rw [Array.getElem?_modify, if_neg hne]
def iY : Intr H := fun f => bif Nat.beq f 82 then some iSort else none
theorem iY_ok : IOk Try.prog (iY (H := H)) := by
  intro f i h args s v s' hi E w args' hW hL
  unfold iY at h
  by_cases e : f = 82
  · subst e
    have h : some iSort = some i := h
    injection h with h
    subst h
    exact iSort_ok hi hW hL
  · rw [beq_no e] at h; cases h
end Go.Proofs.Ytmhmbmogodofeaa.T
