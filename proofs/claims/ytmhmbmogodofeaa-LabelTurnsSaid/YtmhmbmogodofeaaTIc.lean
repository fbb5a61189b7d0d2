/- slices.Insert of one label: the answer. -/
import Derived.Test.YtmhmbmogodofeaaTIb
import Derived.Test.YtmhmbmogodofeaaTXc
set_option autoImplicit false
set_option linter.unusedVariables false
set_option linter.unusedSimpArgs false
namespace Go.Proofs.Ytmhmbmogodofeaa.T
open Go.Shelf Go.RowKit Go.Lib Go.FS
variable {H : HeapI}
theorem app_23 {s : St H} {id iv n c cv : Nat} {r x : List Value} (hr : H.get s.h id = some (.row r)) (hx : H.get s.h iv = some (.row x)) (hc : c / 2 = 2) (hcv : cv / 2 = 2) (hn : n * 2 ≤ r.length) (hxl : x.length = 2) (hxs : x.all isS = true) (hb : n ≤ 1000) :
    appendD Try.prog true s 23 22 (.slice (some ⟨id, 0, none⟩) n c) (.slice (some ⟨iv, 0, none⟩) 1 cv) = some (.slice (some ⟨s.n, 0, none⟩) (n + 1) 4, newD (if c % 2 = 1 then s else delD s id) (.row (r.take (n * 2) ++ x))) := by
  have hcond : (decide ((n + 1) * Try.t106.bytes ≤ 140737488355328) && decide (n + 1 ≤ 140737488355328) && Nat.beq [Value.string ⟨#[]⟩, Value.string ⟨#[]⟩].length Try.t106.size && Nat.blt 0 Try.t106.size) = true := by
    rw [hb106, hs106, decide_eq_true (by omega), decide_eq_true (by omega)]; rfl
  have l1 : lenD (.slice (some ⟨id, 0, none⟩) n c) = some n := rfl
  have l2 : lenD (.slice (some ⟨iv, 0, none⟩) 1 cv) = some 1 := rfl
  have c2 : cellsD s 2 1 (.slice (some ⟨iv, 0, none⟩) 1 cv) = some x := by
    show (bif Nat.ble 1 1 && Nat.beq (cv / 2) 2 then (bif Nat.beq 1 0 then some [] else (rowD s iv).bind fun r => takeD r 0 (1 * 2)) else none) = _
    rw [hcv]
    show (rowD s iv).bind (fun r => takeD r 0 (1 * 2)) = _
    rw [row_of hx, bindS, take_D (by omega), List.drop_zero, List.take_of_length_le (by omega)]
  have tk : takeD r 0 (n * 2) = some (r.take (n * 2)) := by rw [take_D (by omega), List.drop_zero]
  unfold appendD
  simp only [hu23, hu22, bindS, hi106, l1, l2, hzr106, hcond, condT]
  rw [show Nat.beq 1 0 = false from rfl, condF, hs106, c2, bindS, isS_one hxs, Bool.not_true, condF]
  by_cases hcc : c % 2 = 1
  · rw [hcc, beq_yes, condT, if_pos rfl]
    have c1 : cellsD s 2 n (.slice (some ⟨id, 0, none⟩) n c) = some (r.take (n * 2)) := by
      show (bif Nat.ble n n && Nat.beq (c / 2) 2 then (bif Nat.beq n 0 then some [] else (rowD s id).bind fun r => takeD r 0 (n * 2)) else none) = _
      rw [hc, Nat.ble_eq_true_of_le (Nat.le_refl _)]
      show (bif Nat.beq n 0 then some [] else (rowD s id).bind fun r => takeD r 0 (n * 2)) = _
      by_cases h0 : n = 0
      · subst h0; simp
      · rw [beq_no h0, condF, row_of hr, bindS, tk]
    rw [c1]; rfl
  · rw [beq_no hcc, condF, if_neg hcc, row_of hr, bindS, hc]
    show (((takeD r 0 (n * 2)).map fun old => (old, ({ s with h := H.put s.h id none } : St H))).bind _) = _
    rw [tk]; rfl
theorem iIns_ok {args : List Value} {s : St H} {v : Value} {s' : St H} (h : iIns args s = some (v, s')) {E : Env} {w : World} {args' : Array Value} (hW : WRel E s w) (hL : LRel E args args'.toList) : FnOk Try.prog 78 args' w (Ans E w v s') := by
  unfold iIns at h
  split at h
  case h_2 => cases h
  case h_1 id n c k iv cv =>
  obtain ⟨r, hr, h⟩ := bsome h
  obtain ⟨x, hx, h⟩ := bsome h
  obtain ⟨hc, h⟩ := csome h
  injection h with h
  injection h with h1 h2
  subst h1 h2
  simp only [Bool.and_eq_true, decide_eq_true_eq, Bool.not_eq_true'] at hc
  obtain ⟨c1, c2, k0, kn, rl, xl, rS, xS, hne, hn⟩ := hc
  have c1 := Nat.eq_of_beq_eq_true c1
  have c2 := Nat.eq_of_beq_eq_true c2
  have rl := Nat.le_of_ble_eq_true rl
  have xl := Nat.eq_of_beq_eq_true xl
  have hn := Nat.le_of_ble_eq_true hn
  have hne : id ≠ iv := fun e => by rw [e, beq_yes] at hne; cases hne
  have hr := row_eq hr
  have hx := row_eq hx
  obtain ⟨k, rfl⟩ : ∃ q : Nat, k = (q : Int) := ⟨k.toNat, by omega⟩
  rw [Int.toNat_natCast]
  have kn : k ≤ n := by omega
  -- the machine's arguments
  obtain ⟨v1, l1, hl1, hv1, hL⟩ := hL.uncons
  obtain ⟨v2, l2, rfl, hv2, hL⟩ := hL.uncons
  obtain ⟨v3, l3, rfl, hv3, hL⟩ := hL.uncons
  have := hL.unnil
  subst this
  have hargs : args' = #[v1, v2, v3] := by apply Array.toList_inj.1; rw [hl1]
  subst hargs
  have hv1' := hv1
  have hv3' := hv3
  cases hv2 with
  | int _ _ =>
  cases hv1 with
  | slice _ _ _ _ a cap hid hlc hcx ha =>
  cases hv3 with
  | slice _ _ _ _ av vc hiv hvl hvx hav =>
  have hRr := hW.row hr
  have hRx := hW.row hx
  have hlt := hW.lt id _ hr
  have hltv := hW.lt iv _ hx
  have hav : av = ⟨E.blk iv, E.off iv + 0, none⟩ := by
    rcases hav with hav | ⟨_, hav, _⟩
    · omega
    · exact hav
  refine fnok_of_calls (enters_of Try.func78 (by kernel_rfl) rfl _ _) ?_
  have hEn : E.n = s.n := hW.n
  by_cases hkn : k = n
  · -- at the end
    subst hkn
    have happ := app_23 hr hx c1 c2 rl xl xS hn
    obtain ⟨E', u, w', hrun, q1, q2, q3⟩ := append_ok (P := Try.prog) (rt := 23) hW hv1' hv3' happ
    refine (insEnd (some a) (some av) k cap vc w w' u hrun).mono ?_
    rintro e W ⟨rfl, rfl⟩
    have hrow : insRow r x k k = r.take (k * 2) ++ x := by
      unfold insRow
      rw [List.drop_eq_nil_of_le (by rw [List.length_take]; omega), List.append_nil]
    rw [hrow]
    refine ⟨E', q1, ?_, q3⟩
    by_cases hcc : c % 2 = 1
    · rw [if_pos hcc] at q2
      exact q2.kill id
    · rw [if_neg hcc] at q2
      refine wrel_ext q2 rfl fun i => ?_
      rw [delD_get, newD_get, newD_get, delD_get, delD_n]
      by_cases e1 : i = id
      · rw [if_pos e1, if_neg (by omega), if_pos e1]
      · rw [if_neg e1, if_neg e1]
  · have hkn' : k < n := by omega
    have hcap : cap ≠ 0 := by omega
    obtain ⟨_, rfl, hroom⟩ : id < E.n ∧ a = ⟨E.blk id, E.off id + 0, none⟩ ∧ E.off id + 0 + cap * (c / 2) ≤ E.sz id := by
      rcases ha with ha | ha
      · omega
      · exact ha
    rw [c1] at hroom
    obtain ⟨el, hsh⟩ := hRr.shape
    have hvblk : E.blk iv ≠ E.blk id := hW.inj iv id _ _ hx hr (fun e => hne e.symm) hRx.own hRr.own
    have hrm0 := hRr.room
    have hxrm := hRx.room
    have hsn : id ≠ s.n := by omega
    have hvn : iv ≠ s.n := by omega
    have hsrc : ∀ E' : Env, E.Le E' → VRel E' (.slice (some ⟨iv, 0, none⟩) 1 cv) (.slice (some av) 1 vc) := fun E' hE => hv3'.mono hE
    by_cases hrm : n + 1 ≤ cap
    · -- there is room
      obtain ⟨ev, hshv⟩ := hRx.shape
      have hov : ∀ lb cb, (callFunc 127 #[.slice (some av) 1 vc, .slice (some ⟨E.blk id, E.off id + 0 + (k + 1) * 2, none⟩) lb cb]).run Try.prog w = .ok (.value (.bool false)) w := fun lb cb => by
        rw [run_callFunc_extern Try.func127 (by kernel_rfl) (by kernel_rfl) (by kernel_rfl) (e := Extern.SlicesOverlaps.overlaps #[22, 22] #[4]) (by kernel_rfl),
          run_overlaps_apart w 22 4 106 hu22 2 (fun w => sizeD_run hz106 w) av ⟨E.blk id, E.off id + 0 + (k + 1) * 2, none⟩ 1 vc lb cb (by rw [hav]; exact hvblk) ev el (E.sz iv) (E.sz id) (by rw [hav]; exact hshv) hsh (by omega) (by rw [hav]; exact hRx.free _ (by omega)) (by rw [hav]; exact hRx.free _ (Nat.le_refl _))]
        rfl
      -- the row in its room
      have hE1n : (E.add (E.blk id) (E.off id) (E.sz id)).n = s.n + 1 := by rw [Env.add_n, hEn]
      have hW1 : WRel (E.add (E.blk id) (E.off id) (E.sz id)) (newD (delD s id) (.row (r.take (n * 2) ++ [dc, dc]))) w.drew := by
        refine (hW.drew.kill id).new (E.blk id) (E.off id) (E.sz id) _ rfl (hW.blt id hlt hRr.own) (Nat.le_refl _) (fun _ _ _ => rfl) (fun i oi hi hoi e => ?_) (hW.tbo id _ hr hRr.own) (fun o' v hv => (hW.frz _ _ _ hv).2 id _ hr hRr.own rfl) ?_
        · simp only [H.get_put] at hi
          split at hi
          · cases hi
          · rename_i hne
            exact hW.inj id i _ oi hr hi (fun e => hne e.symm) hRr.own hoi e.symm
        · refine ⟨⟨el, by simpa using (show w.drew.shape? (E.blk id) = some (el, E.sz id) from hsh)⟩, by simp only [Env.add_off, Env.add_sz, List.length_append, List.length_take, List.length_cons, List.length_nil]; omega, fun i hi => ?_, by simp, fun o' ho' => by simpa using hRr.free o' (by simpa using ho')⟩
          simp only [Env.add_blk, Env.add_off]
          have hll : (r.take (n * 2)).length = n * 2 := by rw [List.length_take]; omega
          by_cases hin : i < n * 2
          · obtain ⟨v', hv, hrel⟩ := hRr.cell i (by omega)
            refine ⟨v', hv, ?_⟩
            rw [List.getElem_append_left (by omega), List.getElem_take]
            exact hrel.mono (E.le_add _ _ _)
          · have hi2 : i < n * 2 + 2 := by simp only [List.length_append, hll, List.length_cons, List.length_nil] at hi; omega
            have hs := cell_of_shape hsh (E.off id + i) (by omega)
            obtain ⟨v', hv⟩ := Option.isSome_iff_exists.1 hs
            refine ⟨v', hv, ?_⟩
            rw [List.getElem_append_right (by omega)]
            have : ∀ j (hj : j < [dc, dc].length), VRel (E.add (E.blk id) (E.off id) (E.sz id)) [dc, dc][j] v' := fun j hj => by
              match j, hj with
              | 0, _ => exact .dc v'
              | 1, _ => exact .dc v'
            exact this _ _
      have hK1 : Keep E w (E.add (E.blk id) (E.off id) (E.sz id)) w.drew := by
        refine ⟨E.le_add _ _ _, fun i a b c => .inl ⟨id, hlt, hRr.own, ?_⟩, fun _ h => .inl h, rfl, rfl, rfl, Nat.le_refl _, fun b hb hnn _ => rfl, fun _ _ _ _ _ => rfl⟩
        have : i = E.n := by have : i < E.n + 1 := b; omega
        subst this; simp
      have hsl : ∀ o len c', len ≤ c' → E.off id + o + c' * 2 ≤ E.sz id → VRel (E.add (E.blk id) (E.off id) (E.sz id)) (.slice (some ⟨s.n, o, none⟩) len 4) (.slice (some ⟨E.blk id, E.off id + 0 + o, none⟩) len c') := fun o len c' q1 q2 => by
        rw [← hEn, Nat.add_zero]
        exact .slice _ _ _ _ _ _ (by rw [Env.add_n]; omega) q1 (fun h => absurd h (by decide)) (.inr ⟨by rw [Env.add_n]; omega, by rw [Env.add_blk, Env.add_off], by rw [Env.add_off, Env.add_sz]; exact q2⟩)
      have hr1l : (r.take (n * 2) ++ [dc, dc]).length = n * 2 + 2 := by rw [List.length_append, List.length_take]; show min (n * 2) r.length + 2 = _; omega
      have hmin : Nat.min (n + 1 - k) (n + 1 - (k + 1)) = n - k := by simp only [Nat.min_def]; split <;> omega
      have hdt : ((r.take (n * 2) ++ [dc, dc]).drop (k * 2)).take ((n - k) * 2) = (r.drop (k * 2)).take ((n - k) * 2) := by
        rw [List.drop_append_of_le_length (by rw [List.length_take]; omega), List.take_append_of_le_length (by rw [List.length_drop, List.length_take]; omega), List.drop_take, List.take_take]
        congr 1; omega
      have hg1 : H.get (newD (delD s id) (.row (r.take (n * 2) ++ [dc, dc]))).h s.n = some (.row (r.take (n * 2) ++ [dc, dc])) := get_new rfl
      have cp1 := copy_D (s := newD (delD s id) (.row (r.take (n * 2) ++ [dc, dc]))) (t := 23) (di := s.n) (si := s.n) (oi := (k + 1) * 2) (so := k * 2) (n := n + 1 - (k + 1)) (m := n + 1 - k) (c1 := 4) (c2 := 4) hu23 hg1 hg1 rfl rfl (by rw [hmin]; omega)
        (.inr (by rw [hmin, hdt]; exact isS_one (all_take (all_drop rS _) _))) (by rw [hmin, hr1l]; omega) (by rw [hmin, hr1l]; omega)
      rw [hmin, hdt] at cp1
      obtain ⟨E2, u1, w1, run1, _, hW2, hK2⟩ := copy_ok (P := Try.prog) (ats := [23]) (rt := 3) hW1 (hsl ((k + 1) * 2) (n + 1 - (k + 1)) (cap - (k + 1)) (by omega) (by omega)) (hsl (k * 2) (n + 1 - k) (cap - k) (by omega) (by omega)) cp1
      have hmin2 : Nat.min 1 (n + 1 - k) = 1 := by simp only [Nat.min_def]; split <;> omega
      have hl2 : (splice (r.take (n * 2) ++ [dc, dc]) ((k + 1) * 2) ((r.drop (k * 2)).take ((n - k) * 2))).length = n * 2 + 2 := by
        rw [spl_len (by rw [hr1l, List.length_take, List.length_drop]; omega), hr1l]
      have cp2 := copy_D (s := putD (newD (delD s id) (.row (r.take (n * 2) ++ [dc, dc]))) s.n (.row (splice (r.take (n * 2) ++ [dc, dc]) ((k + 1) * 2) ((r.drop (k * 2)).take ((n - k) * 2))))) (t := 23) (di := s.n) (si := iv) (oi := k * 2) (so := 0) (n := n + 1 - k) (m := 1) (c1 := 4) (c2 := cv) hu23 (get_put_same _)
        (by rw [get_put_other hvn, get_old (by rw [delD_n]; exact hvn), get_del (fun e => hne e.symm)]; exact hx) rfl c2 (by rw [hmin2]; omega) (.inl xS) (by rw [hmin2]; omega) (by rw [hmin2, hl2]; omega)
      have ht2 : x.take (1 * 2) = x := List.take_of_length_le (by omega)
      rw [hmin2, List.drop_zero, ht2] at cp2
      obtain ⟨E3, u2, w2, run2, _, hW3, hK3⟩ := copy_ok (P := Try.prog) (ats := [22]) (rt := 3) hW2 ((hsl (k * 2) (n + 1 - k) (cap - k) (by omega) (by omega)).mono hK2.le) (hsrc E2 (hK1.trans hK2).le) cp2
      refine (insRoom (E.blk id) (E.off id + 0) n cap k vc av w w1 w2 u1 u2 hkn' hrm (by omega) hov run1 run2).mono ?_
      rintro e W ⟨rfl, rfl⟩
      refine ⟨E3, ?_, ?_, (hK1.trans hK2).trans hK3⟩
      · have := (hsl 0 (n + 1) cap hrm (by omega)).mono (hK2.trans hK3).le
        exact this
      · refine wrel_ext hW3 rfl fun i => ?_
        rw [delD_get, newD_get, putD_get, putD_get, newD_get, delD_get, delD_n]
        by_cases e1 : i = id
        · rw [if_pos e1, if_neg (by omega), if_neg (by omega), if_neg (by omega), if_pos e1]
        · rw [if_neg e1]
          by_cases e2 : i = s.n
          · rw [if_pos e2, if_pos e2, ins_shift kn rl xl rfl]
          · rw [if_neg e2, if_neg e2, if_neg e2, if_neg e2, if_neg e1]
    · -- a new row
      have hcn : cap = n := by omega
      have hzv : Try.t106.zero = some (.agg #[.string ⟨#[]⟩, .string ⟨#[]⟩]) := by kernel_rfl
      have hvk : VRel E (.slice (some ⟨id, 0, none⟩) k 4) (.slice (some ⟨E.blk id, E.off id + 0, none⟩) k cap) := .slice _ _ _ _ _ _ hid (by omega) (fun h => absurd h (by decide)) (.inr ⟨hid, rfl, hroom⟩)
      have hck : cellsD s 2 k (.slice (some ⟨id, 0, none⟩) k 4) = some (r.take (k * 2)) := by
        show (bif Nat.ble k k && Nat.beq (4 / 2) 2 then (bif Nat.beq k 0 then some [] else (rowD s id).bind fun r => takeD r 0 (k * 2)) else none) = _
        rw [Nat.ble_eq_true_of_le (Nat.le_refl _)]
        show (bif Nat.beq k 0 then some [] else (rowD s id).bind fun r => takeD r 0 (k * 2)) = _
        by_cases h0 : k = 0
        · subst h0; simp
        · rw [beq_no h0, condF, row_of hr, bindS, take_D (by omega), List.drop_zero]
      obtain ⟨old, hold, hol, holl⟩ := cells_ok (P := Try.prog) hW.drew hvk hck
      have hool : old.length = k * 2 := by rw [← hol.1, holl]
      have hkk : (n : Int) + 1 - (k : Int) = ((n + 1 - k : Nat) : Int) := by omega
      have happ := run_append_grow_zeros (P := Try.prog) w 23 3 23 106 Try.t106 _ .i64 .i64 hu23 hu3 hi106 hzv (some ⟨E.blk id, E.off id + 0, none⟩) k cap old (by rw [hs106]; exact hold) (n + 1 - k) (by omega) (by rw [hs106]; omega) (by omega) (by omega) (by rw [hb106]; omega) (by rw [hb106]; exact growslice_fits (by omega) (by omega))
      rw [show k + (n + 1 - k) = n + 1 from by omega] at happ
      have hG := grownCap_ge w (n + 1) cap 106
      generalize grownCap w (n + 1) cap 106 = G at happ hG
      generalize hcells : old.toArray ++ Builtin.zeroCells (Value.agg #[.string ⟨#[]⟩, .string ⟨#[]⟩]).cells (n + 1 - k) ++ Builtin.zeroCells (Value.agg #[.string ⟨#[]⟩, .string ⟨#[]⟩]).cells (G - (n + 1)) = cells at happ
      have hcsz : cells.size = G * 2 := by
        have hz2 : (Value.agg #[.string ⟨#[]⟩, .string ⟨#[]⟩]).cells.size = 2 := rfl
        rw [← hcells, Array.size_append, Array.size_append, zeroCells_size, zeroCells_size, hz2, List.size_toArray, hool]; omega
      have hll : (r.take (k * 2) ++ List.replicate ((n + 1 - k) * 2) dc).length = (n + 1) * 2 := by
        rw [List.length_append, List.length_take, List.length_replicate]; omega
      have hlt0 : (r.take (k * 2)).length = k * 2 := by rw [List.length_take]; omega
      obtain ⟨hW1, hK1⟩ := newRow_ok hW.drew (l := r.take (k * 2) ++ List.replicate ((n + 1 - k) * 2) dc) (cells := cells) 106 (by rw [hll, hcsz]; omega) (fun i h1 h2 => by
        by_cases hi : i < k * 2
        · have h3 : i < old.length := by omega
          rw [List.getElem_append_left (by omega)]
          have : cells[i] = old[i] := by
            simp only [← hcells]
            rw [Array.getElem_append_left (by simp only [Array.size_append, List.size_toArray]; omega), Array.getElem_append_left (by simp only [List.size_toArray]; omega)]
            simp
          rw [this]
          exact hol.2 i (by omega) h3
        · rw [List.getElem_append_right (by omega), List.getElem_replicate]
          exact .dc _)
      have hK1 := (Keep.drew E w).trans hK1
      have hblk : w.drew.heap.size = w.heap.size := rfl
      rw [hblk] at hW1 hK1
      have hE1n : (E.add w.heap.size 0 cells.size).n = s.n + 1 := by rw [Env.add_n, hEn]
      have hsl : ∀ o len c', len ≤ c' → o + c' * 2 ≤ G * 2 → VRel (E.add w.heap.size 0 cells.size) (.slice (some ⟨s.n, o, none⟩) len 4) (.slice (some ⟨w.heap.size, o, none⟩) len c') := fun o len c' q1 q2 => by
        rw [← hEn]
        exact .slice _ _ _ _ _ _ (by rw [Env.add_n]; omega) q1 (fun h => absurd h (by decide)) (.inr ⟨by rw [Env.add_n]; omega, by rw [Env.add_blk, Env.add_off, Nat.zero_add], by rw [Env.add_off, Env.add_sz, hcsz]; omega⟩)
      have hmin1 : Nat.min 1 (n + 1 - k) = 1 := by simp only [Nat.min_def]; split <;> omega
      have cp1 := copy_D (s := newD s (.row (r.take (k * 2) ++ List.replicate ((n + 1 - k) * 2) dc))) (t := 23) (di := s.n) (si := iv) (oi := k * 2) (so := 0) (n := n + 1 - k) (m := 1) (c1 := 4) (c2 := cv) hu23 (get_new rfl) (by rw [get_old hvn]; exact hx) rfl c2 (by rw [hmin1]; omega) (.inl xS) (by rw [hmin1]; omega) (by rw [hmin1, hll]; omega)
      have ht2 : x.take (1 * 2) = x := List.take_of_length_le (by omega)
      rw [hmin1, List.drop_zero, ht2] at cp1
      obtain ⟨E2, u1, w2, run1, _, hW2, hK2⟩ := copy_ok (P := Try.prog) (ats := [22]) (rt := 3) hW1 (hsl (k * 2) (n + 1 - k) (G - k) (by omega) (by omega)) (hsrc _ hK1.le) cp1
      have hmin2 : Nat.min (n - k) (n + 1 - (k + 1)) = n - k := by simp only [Nat.min_def]; split <;> omega
      have hl2 : (splice (r.take (k * 2) ++ List.replicate ((n + 1 - k) * 2) dc) (k * 2) x).length = (n + 1) * 2 := by
        rw [spl_len (by rw [hll]; omega), hll]
      have cp2 := copy_D (s := putD (newD s (.row (r.take (k * 2) ++ List.replicate ((n + 1 - k) * 2) dc))) s.n (.row (splice (r.take (k * 2) ++ List.replicate ((n + 1 - k) * 2) dc) (k * 2) x))) (t := 23) (di := s.n) (si := id) (oi := (k + 1) * 2) (so := k * 2) (n := n + 1 - (k + 1)) (m := n - k) (c1 := 4) (c2 := 4) hu23 (get_put_same _)
        (by rw [get_put_other hsn, get_old hsn]; exact hr) rfl rfl (by rw [hmin2]; omega) (.inl rS) (by rw [hmin2]; omega) (by rw [hmin2, hl2]; omega)
      rw [hmin2] at cp2
      have hvs : VRel E (.slice (some ⟨id, k * 2, none⟩) (n - k) 4) (.slice (some ⟨E.blk id, E.off id + 0 + k * 2, none⟩) (n - k) (cap - k)) := .slice _ _ _ _ _ _ hid (by omega) (fun h => absurd h (by decide)) (.inr ⟨hid, by rw [Nat.add_zero], by omega⟩)
      obtain ⟨E3, u2, w3, run2, _, hW3, hK3⟩ := copy_ok (P := Try.prog) (ats := [23]) (rt := 3) hW2.drew ((hsl ((k + 1) * 2) (n + 1 - (k + 1)) (G - (k + 1)) (by omega) (by omega)).mono hK2.le) (hvs.mono (hK1.trans hK2).le) cp2
      have hK3 := (Keep.drew E2 w2).trans hK3
      refine (insGrow (E.blk id) (E.off id + 0) n cap k vc w.heap.size G av w _ w2 w3 u1 u2 hkn' (by omega) (by omega) (by omega) hG (by rw [hkk]; exact happ) run1 run2).mono ?_
      rintro e W ⟨rfl, rfl⟩
      refine ⟨E3, (hsl 0 (n + 1) G hG (by omega)).mono (hK2.trans hK3).le, ?_, (hK1.trans hK2).trans hK3⟩
      refine wrel_ext (hW3.kill id) rfl fun i => ?_
      show H.get (delD (newD s (.row (insRow r x n k))) id).h i = H.get (delD (putD (putD (newD s (.row (r.take (k * 2) ++ List.replicate ((n + 1 - k) * 2) dc))) s.n (.row (splice (r.take (k * 2) ++ List.replicate ((n + 1 - k) * 2) dc) (k * 2) x))) s.n (.row (splice (splice (r.take (k * 2) ++ List.replicate ((n + 1 - k) * 2) dc) (k * 2) x) ((k + 1) * 2) ((r.drop (k * 2)).take ((n - k) * 2))))) id).h i
      rw [delD_get, delD_get, newD_get, putD_get, putD_get, newD_get, ins_grow kn rl xl (by rw [List.length_replicate])]
      by_cases e1 : i = id
      · rw [if_pos e1, if_pos e1]
      · rw [if_neg e1, if_neg e1]
        by_cases e2 : i = s.n
        · rw [if_pos e2, if_pos e2]
        · rw [if_neg e2, if_neg e2, if_neg e2, if_neg e2]
/-- The answers of a program of labels: a set's text, strings.Compare, slices.Insert. -/
def iW : Intr H := fun f => bif Nat.beq f 78 then some iIns else iL f
end Go.Proofs.Ytmhmbmogodofeaa.T
