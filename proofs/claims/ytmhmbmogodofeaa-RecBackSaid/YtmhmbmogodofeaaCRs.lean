import Derived.Test.YtmhmbmogodofeaaCRr
set_option autoImplicit false
set_option linter.unusedVariables false
set_option linter.unusedSimpArgs false
set_option maxRecDepth 100000
namespace Go.Proofs.Ytmhmbmogodofeaa.S
open Go.FS Go.RowKit
section law
variable {bs : List UInt8}
theorem num_ok {most : Nat} {r : Rs} (hr : r.1 ≤ bs.length) (h : (numM bs most r).2.2 = 0) : r.2 = 0 ∧ At bs r.1 (vput (numM bs most r).1) (numM bs most r).2.1 ∧ (numM bs most r).1 ≤ most ∧ (numM bs most r).1 < 2 ^ 64 := by
  unfold numM at h ⊢
  obtain ⟨h0, h1, h2, h3⟩ := take_ok h
  rw [h3]
  obtain ⟨v1, v2⟩ := vread_at' hr h1
  exact ⟨h0, v1, of_decide_eq_true h2, v2⟩
theorem num_at {most x i j : Nat} (h : At bs i (vput x) j) (hm : x ≤ most) (hx : x < 2 ^ 64) : numM bs most (i, 0) = (x, (j, 0)) := by
  unfold numM takeM
  rw [if_neg (fun g => g rfl), vread_at h hx]
  show (if (0 : Int) ≠ 0 then _ else if decide (x ≤ most) = true then _ else _) = _
  rw [if_neg (fun g => g rfl), if_pos (decide_eq_true hm)]
theorem aft_ok {last : Nat} {r : Rs} (hl : last < 2 ^ 64) (hr : r.1 ≤ bs.length) (h : (aftM bs last r).2.2 = 0) : r.2 = 0 ∧ At bs r.1 (vput ((aftM bs last r).1 - last)) (aftM bs last r).2.1 ∧ last ≤ (aftM bs last r).1 ∧ (aftM bs last r).1 < 2 ^ 64 := by
  unfold aftM at h ⊢
  obtain ⟨h0, h1, h2, h3⟩ := take_ok h
  rw [h3]
  obtain ⟨v1, v2⟩ := vread_at' hr h1
  have h2 := of_decide_eq_true h2
  simp only
  generalize (vread bs r.1).1 = x at v1 v2 h2
  have hlt : last + x < 2 ^ 64 := by omega
  rw [Nat.mod_eq_of_lt hlt]
  refine ⟨h0, ?_, by omega, hlt⟩
  rw [Nat.add_sub_cancel_left]; exact v1
theorem aft_at {last x i j : Nat} (h : At bs i (vput (x - last)) j) (hm : last ≤ x) (hx : x < 2 ^ 64) : aftM bs last (i, 0) = (x, (j, 0)) := by
  have e : (last + (x - last)) % 2 ^ 64 = x := by rw [Nat.add_sub_cancel' hm, Nat.mod_eq_of_lt hx]
  have ht : takeM 0 (vread bs) (aftOk last) (i, 0) = (x - last, (j, 0)) := by
    unfold takeM
    rw [if_neg (fun g => g rfl), vread_at h (by omega)]
    show (if (0 : Int) ≠ 0 then _ else if aftOk last (x - last) = true then (x - last, ((j, 0) : Rs)) else _) = _
    rw [if_neg (fun g => g rfl), if_pos (show aftOk last (x - last) = true by unfold aftOk; rw [e]; exact decide_eq_true hm)]
  unfold aftM
  rw [ht]
  simp only [e]
theorem lab_ok {r : Rs} (hr : r.1 ≤ bs.length) (h : (labM bs r).2.2 = 0) : r.2 = 0 ∧ okL (labM bs r).1 = true ∧ At bs r.1 (lput (labM bs r).1) (labM bs r).2.1 := by
  unfold labM at h ⊢
  obtain ⟨h0, h1, h2, h3⟩ := take_ok h
  rw [h3]
  exact ⟨h0, lread_ok hr h1⟩
theorem lab_at {l : List Lab} {i j : Nat} (h : At bs i (lput l) j) (ho : okL l = true) : labM bs (i, 0) = (l, (j, 0)) := by
  unfold labM takeM
  rw [if_neg (fun g => g rfl), lread_at h ho]
  rfl
theorem val_ok {r : Rs} (hr : r.1 ≤ bs.length) (h : (valM bs r).2.2 = 0) : r.2 = 0 ∧ At bs r.1 (le8 8 (valM bs r).1) (valM bs r).2.1 ∧ (valM bs r).1 < 2 ^ 64 := by
  unfold valM at h ⊢
  obtain ⟨h0, h1, h2, h3⟩ := take_ok h
  rw [h3]
  exact ⟨h0, v8_ok h1 hr⟩
theorem val_at {v i j : Nat} (h : At bs i (le8 8 v) j) (hv : v < 2 ^ 64) : valM bs (i, 0) = (v, (j, 0)) := by
  unfold valM takeM
  rw [if_neg (fun g => g rfl), v8_at h hv]
  rfl
theorem int_ok {last : Int} {r : Rs} (hr : r.1 ≤ bs.length) (h : (intM bs last r).2.2 = 0) : r.2 = 0 ∧ At bs r.1 (vput (zg (intM bs last r).1)) (intM bs last r).2.1 := by
  unfold intM at h ⊢
  obtain ⟨h0, h1, h2, h3⟩ := take_ok h
  rw [h3]
  refine ⟨h0, ?_⟩
  show At bs r.1 (vput (zg (zag (vread bs r.1).1))) _
  rw [zg_zag]
  exact (vread_at' hr h1).1
theorem int_at {last d : Int} {i j : Nat} (h : At bs i (vput (zg d)) j) (hd : intOk last d = true) (hz : zg d < 2 ^ 64) : intM bs last (i, 0) = (d, (j, 0)) := by
  unfold intM takeM vreadI
  rw [if_neg (fun g => g rfl), vread_at h hz]
  show (if (0 : Int) ≠ 0 then _ else if intOk last (zag (zg d)) = true then (zag (zg d), ((j, 0) : Rs)) else _) = _
  rw [if_neg (fun g => g rfl), zag_zg, if_pos hd]
/-! Members. -/
theorem goM_step {σ α : Type} {one : σ → Rs → α × σ × Rs} {k : Nat} {st st' : σ} {r : Rs} {acc : List α} {x : α} {i' : Nat} (h : one st r = (x, st', (i', 0))) : goM one (k + 1) st r acc = goM one k st' (i', 0) (acc ++ [x]) := by
  rw [goM_succ, h]; exact if_neg (fun g => g rfl)
theorem goI_ok : ∀ {k last : Nat} {r : Rs} {acc : List Int}, r.1 ≤ bs.length → last < 2 ^ 64 → (goM (oneI bs) k last r acc).2.2.2 = 0 → ∃ l : List Int, (goM (oneI bs) k last r acc).1 = acc ++ l ∧ l.length = k ∧ r.2 = 0 ∧ At bs r.1 (idsGo last l) (goM (oneI bs) k last r acc).2.2.1 ∧ ∀ x ∈ l, U64 x
  | 0, last, r, acc, hr, hl, h => ⟨[], by rw [List.append_nil]; rfl, rfl, h, At.nil hr, fun x hx => absurd hx List.not_mem_nil⟩
  | k + 1, last, r, acc, hr, hl, h => by
    rw [goM_succ] at h ⊢
    by_cases he : (oneI bs last r).2.2.2 = 0
    · rw [if_neg (fun g => g he)] at h ⊢
      obtain ⟨a0, a1, a2, a3⟩ := aft_ok hl hr he
      obtain ⟨l, h1, h2, h3, h4, h5⟩ := goI_ok (aft_le hr last) a3 h
      refine ⟨((aftM bs last r).1 : Int) :: l, h1.trans (by rw [List.append_assoc]; rfl), by rw [List.length_cons, h2], a0, ?_, fun x hx => ?_⟩
      · rw [ids_cons]
        have e : (((aftM bs last r).1 : Int) - (last : Int)).toNat = (aftM bs last r).1 - last := by omega
        rw [e]
        exact a1.app h4
      · rcases List.mem_cons.1 hx with rfl | hx
        · exact ⟨by omega, by omega⟩
        · exact h5 x hx
    · rw [if_pos he] at h; exact absurd h he
theorem goI_at : ∀ {l : List Int} {last i j : Nat} {acc : List Int}, At bs i (idsGo last l) j → riseB last l = true → (∀ x ∈ l, U64 x) → (goM (oneI bs) l.length last (i, 0) acc).1 = acc ++ l ∧ (goM (oneI bs) l.length last (i, 0) acc).2.2 = (j, 0)
  | [], last, i, j, acc, h, _, _ => by
    obtain ⟨rfl, _, _⟩ := h
    exact ⟨by rw [List.append_nil]; rfl, rfl⟩
  | x :: l, last, i, j, acc, h, hr, hu => by
    rw [ids_cons] at h
    obtain ⟨k, h1, h2⟩ := At.split h
    rw [rise_cons, Bool.and_eq_true, decide_eq_true_eq] at hr
    obtain ⟨u0, u1⟩ := hu x (List.mem_cons_self ..)
    have e : (x - (last : Int)).toNat = x.toNat - last := by omega
    have ex : (x.toNat : Int) = x := Int.toNat_of_nonneg u0
    rw [e] at h1
    have ha : aftM bs last (i, 0) = (x.toNat, (k, 0)) := aft_at h1 (by omega) (by omega)
    have ho : oneI bs last (i, 0) = (x, x.toNat, (k, 0)) := by unfold oneI; rw [ha]; simp only [ex]
    rw [List.length_cons, goM_step ho]
    rw [← ex] at h2 hr
    have := goI_at (acc := acc ++ [x]) h2 hr.2 fun y hy => hu y (List.mem_cons_of_mem _ hy)
    rw [List.append_assoc] at this
    exact this
theorem eachI_ok {r : Rs} (hr : r.1 ≤ bs.length) (h : (eachM bs (oneI bs) 0 r).2.2.2 = 0) : r.2 = 0 ∧ At bs r.1 (idsB (eachM bs (oneI bs) 0 r).1) (eachM bs (oneI bs) 0 r).2.2.1 ∧ (∀ x ∈ (eachM bs (oneI bs) 0 r).1, U64 x) ∧ (eachM bs (oneI bs) 0 r).1.length ≤ 4096 := by
  unfold eachM at h ⊢
  obtain ⟨l, h1, h2, h3, h4, h5⟩ := goI_ok (num_le hr 4096) (by decide) h
  obtain ⟨n0, n1, n2, n3⟩ := num_ok hr h3
  rw [List.nil_append] at h1
  rw [h1]
  refine ⟨n0, ?_, h5, by omega⟩
  unfold idsB
  rw [h2]
  exact n1.app h4
theorem eachI_at {l : List Int} {i j : Nat} (h : At bs i (idsB l) j) (hr : rise l = true) (hu : ∀ x ∈ l, U64 x) : (eachM bs (oneI bs) 0 (i, 0)).1 = l ∧ (eachM bs (oneI bs) 0 (i, 0)).2.2 = (j, 0) := by
  simp only [rise, Bool.and_eq_true, decide_eq_true_eq] at hr
  obtain ⟨k, h1, h2⟩ := At.split h
  unfold eachM
  rw [num_at h1 hr.2 (by omega)]
  exact goI_at (acc := []) h2 hr.1 hu
def nkGo (last : Int) (l : List (Int × List Lab)) : List UInt8 := nmGo last (l.map toNm)
theorem goN_ok : ∀ {k last : Nat} {r : Rs} {acc : List (Int × List Lab)}, r.1 ≤ bs.length → last < 2 ^ 64 → (goM (oneN bs) k last r acc).2.2.2 = 0 → ∃ l : List (Int × List Lab), (goM (oneN bs) k last r acc).1 = acc ++ l ∧ l.length = k ∧ r.2 = 0 ∧ At bs r.1 (nkGo last l) (goM (oneN bs) k last r acc).2.2.1 ∧ ∀ x ∈ l, U64 x.1 ∧ okL x.2 = true
  | 0, last, r, acc, hr, hl, h => ⟨[], by rw [List.append_nil]; rfl, rfl, h, At.nil hr, fun x hx => absurd hx List.not_mem_nil⟩
  | k + 1, last, r, acc, hr, hl, h => by
    rw [goM_succ] at h ⊢
    by_cases he : (oneN bs last r).2.2.2 = 0
    · rw [if_neg (fun g => g he)] at h ⊢
      obtain ⟨b0, b1, b2⟩ := lab_ok (aft_le hr last) he
      obtain ⟨a0, a1, a2, a3⟩ := aft_ok hl hr b0
      obtain ⟨l, h1, h2, h3, h4, h5⟩ := goN_ok (lab_le (aft_le hr last)) a3 h
      refine ⟨(((aftM bs last r).1 : Int), (labM bs (aftM bs last r).2).1) :: l, h1.trans (by rw [List.append_assoc]; rfl), by rw [List.length_cons, h2], a0, ?_, fun x hx => ?_⟩
      · unfold nkGo
        rw [List.map_cons, nm_cons]
        have e : (((aftM bs last r).1 : Int) - (last : Int)).toNat = (aftM bs last r).1 - last := by omega
        show At bs r.1 (vput (((aftM bs last r).1 : Int) - (last : Int)).toNat ++ _) _
        rw [e]
        exact a1.app (b2.app h4)
      · rcases List.mem_cons.1 hx with rfl | hx
        · exact ⟨⟨by show (0 : Int) ≤ ((aftM bs last r).1 : Int); omega, by show ((aftM bs last r).1 : Int) < 2 ^ 64; omega⟩, b1⟩
        · exact h5 x hx
    · rw [if_pos he] at h; exact absurd h he
theorem goN_at : ∀ {l : List Nm} {last i j : Nat} {acc : List (Int × List Lab)}, At bs i (nmGo last l) j → riseB last (l.map nid) = true → (∀ x ∈ l, U64 x.1) → (∀ x ∈ l, nmOk x = true) → (goM (oneN bs) l.length last (i, 0) acc).1 = acc ++ l.map nk ∧ (goM (oneN bs) l.length last (i, 0) acc).2.2 = (j, 0)
  | [], last, i, j, acc, h, _, _, _ => by
    obtain ⟨rfl, _, _⟩ := h
    exact ⟨by rw [List.map_nil, List.append_nil]; rfl, rfl⟩
  | x :: l, last, i, j, acc, h, hr, hu, hk => by
    rw [nm_cons] at h
    obtain ⟨k, h1, h2⟩ := At.split h
    obtain ⟨k', h3, h4⟩ := At.split h2
    rw [List.map_cons, rise_cons, Bool.and_eq_true, decide_eq_true_eq] at hr
    have hr1 : (last : Int) < x.1 := hr.1
    have hr2 : riseB x.1 (l.map nid) = true := hr.2
    obtain ⟨u0, u1⟩ := hu x (List.mem_cons_self ..)
    have e : (x.1 - (last : Int)).toNat = x.1.toNat - last := by omega
    have ex : (x.1.toNat : Int) = x.1 := Int.toNat_of_nonneg u0
    rw [e] at h1
    have ha : aftM bs last (i, 0) = (x.1.toNat, (k, 0)) := aft_at h1 (by omega) (by omega)
    have hb : labM bs (k, 0) = (x.2.2, (k', 0)) := lab_at h3 (hk x (List.mem_cons_self ..))
    have ho : oneN bs last (i, 0) = (nk x, x.1.toNat, (k', 0)) := by unfold oneN; rw [ha]; simp only [hb, ex]; rfl
    rw [List.length_cons, goM_step ho]
    rw [← ex] at h4 hr2
    have := goN_at (acc := acc ++ [nk x]) h4 hr2 (fun y hy => hu y (List.mem_cons_of_mem _ hy)) (fun y hy => hk y (List.mem_cons_of_mem _ hy))
    rw [List.append_assoc] at this
    exact this
theorem eachN_ok {r : Rs} (hr : r.1 ≤ bs.length) (h : (eachM bs (oneN bs) 0 r).2.2.2 = 0) : r.2 = 0 ∧ At bs r.1 (nmB ((eachM bs (oneN bs) 0 r).1.map toNm)) (eachM bs (oneN bs) 0 r).2.2.1 ∧ (∀ x ∈ (eachM bs (oneN bs) 0 r).1, U64 x.1 ∧ okL x.2 = true) ∧ (eachM bs (oneN bs) 0 r).1.length ≤ 4096 := by
  unfold eachM at h ⊢
  obtain ⟨l, h1, h2, h3, h4, h5⟩ := goN_ok (num_le hr 4096) (by decide) h
  obtain ⟨n0, n1, n2, n3⟩ := num_ok hr h3
  rw [List.nil_append] at h1
  rw [h1]
  refine ⟨n0, ?_, h5, by omega⟩
  unfold nmB
  rw [List.length_map, h2]
  exact n1.app h4
theorem eachN_at {l : List Nm} {i j : Nat} (h : At bs i (nmB l) j) (hr : rise (l.map nid) = true) (hu : ∀ x ∈ l, U64 x.1) (hk : ∀ x ∈ l, nmOk x = true) : (eachM bs (oneN bs) 0 (i, 0)).1 = l.map nk ∧ (eachM bs (oneN bs) 0 (i, 0)).2.2 = (j, 0) := by
  simp only [rise, Bool.and_eq_true, decide_eq_true_eq, List.length_map] at hr
  obtain ⟨k, h1, h2⟩ := At.split h
  unfold eachM
  rw [num_at h1 hr.2 (by omega)]
  exact goN_at (acc := []) h2 hr.1 hu hk
theorem goP_ok : ∀ {k : Nat} {last : Int} {r : Rs} {acc : List Pt}, r.1 ≤ bs.length → (0 ≤ last ∧ last ≤ 35184372088832) → (goM (oneP bs) k last r acc).2.2.2 = 0 → ∃ l : List Pt, (goM (oneP bs) k last r acc).1 = acc ++ l ∧ l.length = k ∧ r.2 = 0 ∧ At bs r.1 (ptGo last l) (goM (oneP bs) k last r acc).2.2.1 ∧ ∀ x ∈ l, U64 x.1 ∧ U64 x.2.2
  | 0, last, r, acc, hr, hl, h => ⟨[], by rw [List.append_nil]; rfl, rfl, h, At.nil hr, fun x hx => absurd hx List.not_mem_nil⟩
  | k + 1, last, r, acc, hr, hl, h => by
    rw [goM_succ] at h ⊢
    by_cases he : (oneP bs last r).2.2.2 = 0
    · rw [if_neg (fun g => g he)] at h ⊢
      have l1 := num_le hr 18446744073709551615
      have l2 := int_le l1 last
      obtain ⟨c0, c1, c2⟩ := val_ok l2 he
      obtain ⟨b0, b1⟩ := int_ok l1 c0
      obtain ⟨a0, a1, a2, a3⟩ := num_ok hr b0
      obtain ⟨l, h1, h2, h3, h4, h5⟩ := goP_ok (val_le' l2) (int_rng hl.1 hl.2) h
      refine ⟨(oneP bs last r).1 :: l, h1.trans (by rw [List.append_assoc]; rfl), by rw [List.length_cons, h2], a0, ?_, fun x hx => ?_⟩
      · rw [pt_cons]
        unfold oneP at h4 ⊢
        simp only [Int.toNat_natCast] at h4 ⊢
        rw [show ∀ a b : Int, a + b - a = b from fun a b => by omega]
        exact a1.app (b1.app (c1.app h4))
      · rcases List.mem_cons.1 hx with rfl | hx
        · exact ⟨⟨Int.natCast_nonneg _, by show ((numM bs 18446744073709551615 r).1 : Int) < 2 ^ 64; omega⟩, ⟨Int.natCast_nonneg _, by show ((valM bs _).1 : Int) < 2 ^ 64; omega⟩⟩
        · exact h5 x hx
    · rw [if_pos he] at h; exact absurd h he
theorem goP_at : ∀ {l : List Pt} {last : Int} {i j : Nat} {acc : List Pt}, At bs i (ptGo last l) j → (0 ≤ last ∧ last ≤ 35184372088832) → (∀ x ∈ l, U64 x.1 ∧ U64 x.2.2) → (∀ x ∈ l, ptOk x = true) → (goM (oneP bs) l.length last (i, 0) acc).1 = acc ++ l ∧ (goM (oneP bs) l.length last (i, 0) acc).2.2 = (j, 0)
  | [], last, i, j, acc, h, _, _, _ => by
    obtain ⟨rfl, _, _⟩ := h
    exact ⟨by rw [List.append_nil]; rfl, rfl⟩
  | x :: l, last, i, j, acc, h, hl, hu, hk => by
    rw [pt_cons] at h
    obtain ⟨k, h1, h2⟩ := At.split h
    obtain ⟨k', h3, h4⟩ := At.split h2
    obtain ⟨k'', h5, h6⟩ := At.split h4
    obtain ⟨⟨u0, u1⟩, ⟨v0, v1⟩⟩ := hu x (List.mem_cons_self ..)
    have hx := hk x (List.mem_cons_self ..)
    have ht : 0 ≤ x.2.1 ∧ x.2.1 ≤ 35184372088832 := by
      unfold ptOk at hx
      rw [Bool.and_eq_true] at hx
      exact (tmOk_iff _).1 hx.2
    have ex : (x.1.toNat : Int) = x.1 := Int.toNat_of_nonneg u0
    have ev : (x.2.2.toNat : Int) = x.2.2 := Int.toNat_of_nonneg v0
    have es : last + (x.2.1 - last) = x.2.1 := by omega
    have ha : numM bs 18446744073709551615 (i, 0) = (x.1.toNat, (k, 0)) := num_at h1 (by omega) (by omega)
    have hb : intM bs last (k, 0) = (x.2.1 - last, (k', 0)) := int_at h3 (by
      unfold intOk
      simp only [Bool.and_eq_true, decide_eq_true_eq, tmOk_iff]
      omega) (by unfold zg; split <;> omega)
    have hc : valM bs (k', 0) = (x.2.2.toNat, (k'', 0)) := val_at h5 (by omega)
    have ho : oneP bs last (i, 0) = (x, x.2.1, (k'', 0)) := by unfold oneP; rw [ha]; simp only [hb, hc, ex, ev, es]
    rw [List.length_cons, goM_step ho]
    have := goP_at (acc := acc ++ [x]) h6 ht (fun y hy => hu y (List.mem_cons_of_mem _ hy)) (fun y hy => hk y (List.mem_cons_of_mem _ hy))
    rw [List.append_assoc] at this
    exact this
theorem eachP_ok {r : Rs} (hr : r.1 ≤ bs.length) (h : (eachM bs (oneP bs) 0 r).2.2.2 = 0) : r.2 = 0 ∧ At bs r.1 (ptB (eachM bs (oneP bs) 0 r).1) (eachM bs (oneP bs) 0 r).2.2.1 ∧ (∀ x ∈ (eachM bs (oneP bs) 0 r).1, U64 x.1 ∧ U64 x.2.2) ∧ (eachM bs (oneP bs) 0 r).1.length ≤ 4096 := by
  unfold eachM at h ⊢
  obtain ⟨l, h1, h2, h3, h4, h5⟩ := goP_ok (num_le hr 4096) ⟨by decide, by decide⟩ h
  obtain ⟨n0, n1, n2, n3⟩ := num_ok hr h3
  rw [List.nil_append] at h1
  rw [h1]
  refine ⟨n0, ?_, h5, by omega⟩
  unfold ptB
  rw [h2]
  exact n1.app h4
theorem eachP_at {l : List Pt} {i j : Nat} (h : At bs i (ptB l) j) (hl : l.length ≤ 4096) (hu : ∀ x ∈ l, U64 x.1 ∧ U64 x.2.2) (hk : ∀ x ∈ l, ptOk x = true) : (eachM bs (oneP bs) 0 (i, 0)).1 = l ∧ (eachM bs (oneP bs) 0 (i, 0)).2.2 = (j, 0) := by
  obtain ⟨k, h1, h2⟩ := At.split h
  unfold eachM
  rw [num_at h1 hl (by omega)]
  exact goP_at (acc := []) h2 ⟨by decide, by decide⟩ hu hk
end law

theorem goM_le {σ α : Type} {one : σ → Rs → α × σ × Rs} {L : Nat} (h : ∀ st r, r.1 ≤ L → (one st r).2.2.1 ≤ L) : ∀ (k : Nat) (st : σ) (r : Rs) (acc : List α), r.1 ≤ L → (goM one k st r acc).2.2.1 ≤ L
  | 0, st, r, acc, hr => hr
  | k + 1, st, r, acc, hr => by
    rw [goM_succ]
    by_cases he : (one st r).2.2.2 = 0
    · rw [if_neg (fun g => g he)]
      exact goM_le h k _ _ _ (h st r hr)
    · rw [if_pos he]; exact h st r hr
section law
variable {bs : List UInt8} {r : Rs}
theorem eachI_le (hr : r.1 ≤ bs.length) : (eachM bs (oneI bs) 0 r).2.2.1 ≤ bs.length := goM_le (fun st r h => aft_le h st) _ _ _ _ (num_le hr 4096)
theorem eachN_le (hr : r.1 ≤ bs.length) : (eachM bs (oneN bs) 0 r).2.2.1 ≤ bs.length := goM_le (fun st r h => lab_le (aft_le h st)) _ _ _ _ (num_le hr 4096)
theorem u64_0 : U64 0 := ⟨by decide, by decide⟩
theorem wf_mk {k n : Int} {new : List (Int × List Lab)} {pts : List Pt} {ids : List Int} {rng : Rg} (h1 : ∀ x ∈ new, U64 x.1 ∧ okL x.2 = true) (l1 : new.length ≤ 4096) (h2 : ∀ p ∈ pts, U64 p.1 ∧ U64 p.2.2) (l2 : pts.length ≤ 4096) (h3 : ∀ x ∈ ids, U64 x) (l3 : ids.length ≤ 4096) (hn : U64 n) : WfR ⟨k, 2, new.map toNm, 2, pts, 2, ids, rng, n⟩ := by
  have hm : ∀ a ∈ new.map toNm, U64 a.1 ∧ okL a.2.2 = true := fun a ha => by
    obtain ⟨b, hb, rfl⟩ := List.mem_map.1 ha
    exact h1 b hb
  refine ⟨⟨?_, fun a ha => ?_, ?_, ?_⟩, fun a ha => okL_small (hm a ha).2, fun a ha => (hm a ha).1, h3, h2, hn⟩
  · show (new.map toNm).length < _; rw [List.length_map]; omega
  · exact (okL_small (hm a ha).2).1
  · show pts.length < _; omega
  · show ids.length < _; omega
theorem no_new : ∀ x ∈ ([] : List (Int × List Lab)), U64 x.1 ∧ okL x.2 = true := fun x hx => absurd hx List.not_mem_nil
theorem no_pts : ∀ p ∈ ([] : List Pt), U64 p.1 ∧ U64 p.2.2 := fun x hx => absurd hx List.not_mem_nil
theorem no_ids : ∀ x ∈ ([] : List Int), U64 x := fun x hx => absurd hx List.not_mem_nil
/-- What is read has those bytes. -/
theorem body_ok {k : Int} (hk : 1 ≤ k ∧ k ≤ 6) (hr : r.1 ≤ bs.length) (h : (bodyM bs k r).2.2 = 0) : At bs r.1 (tailB (bodyM bs k r).1) (bodyM bs k r).2.1 ∧ WfR (bodyM bs k r).1 ∧ (bodyM bs k r).1.kind = k := by
  unfold bodyM at h ⊢
  by_cases k1 : k = 1
  · rw [if_pos k1] at h ⊢
    obtain ⟨b0, b1, b2, b3⟩ := eachP_ok (eachN_le hr) h
    obtain ⟨a0, a1, a2, a3⟩ := eachN_ok hr b0
    refine ⟨?_, wf_mk a2 a3 b2 b3 no_ids (Nat.zero_le _) u64_0, rfl⟩
    unfold tailB
    rw [if_pos (show (zrec k).kind = 1 from k1)]
    exact a1.app b1
  rw [if_neg k1] at h ⊢
  by_cases k2 : k = 2
  · rw [if_pos k2] at h ⊢
    obtain ⟨c0, c1, c2, c3⟩ := num_ok (num_le (eachI_le hr) 35184372088832) h
    obtain ⟨b0, b1, b2, b3⟩ := num_ok (eachI_le hr) c0
    obtain ⟨a0, a1, a2, a3⟩ := eachI_ok hr b0
    refine ⟨?_, wf_mk no_new (Nat.zero_le _) no_pts (Nat.zero_le _) a2 a3 u64_0, rfl⟩
    unfold tailB
    rw [if_neg (show ¬ (zrec k).kind = 1 from k1), if_pos (show (zrec k).kind = 2 from k2)]
    simp only [Int.toNat_natCast]
    rw [show ∀ a b : Int, a + b - a = b from fun a b => by omega, Int.toNat_natCast]
    exact a1.app (b1.app c1)
  rw [if_neg k2] at h ⊢
  by_cases k3 : k = 3
  · rw [if_pos k3] at h ⊢
    obtain ⟨a0, a1, a2, a3⟩ := eachN_ok hr h
    refine ⟨?_, wf_mk a2 a3 no_pts (Nat.zero_le _) no_ids (Nat.zero_le _) u64_0, rfl⟩
    unfold tailB
    rw [if_neg (show ¬ (zrec k).kind = 1 from k1), if_neg (show ¬ (zrec k).kind = 2 from k2), if_pos (show (zrec k).kind = 3 from k3)]
    exact a1
  rw [if_neg k3] at h ⊢
  by_cases k4 : k = 4
  · rw [if_pos k4] at h ⊢
    obtain ⟨c0, c1, c2, c3⟩ := eachN_ok (num_le (eachI_le hr) 18446744073709551615) h
    obtain ⟨b0, b1, b2, b3⟩ := num_ok (eachI_le hr) c0
    obtain ⟨a0, a1, a2, a3⟩ := eachI_ok hr b0
    refine ⟨?_, wf_mk c2 c3 no_pts (Nat.zero_le _) a2 a3 ⟨Int.natCast_nonneg _, by omega⟩, rfl⟩
    unfold tailB
    rw [if_neg (show ¬ (zrec k).kind = 1 from k1), if_neg (show ¬ (zrec k).kind = 2 from k2), if_neg (show ¬ (zrec k).kind = 3 from k3), if_pos (show (zrec k).kind = 4 from k4)]
    simp only [Int.toNat_natCast]
    exact a1.app (b1.app c1)
  rw [if_neg k4] at h ⊢
  by_cases k5 : k = 5
  · rw [if_pos k5] at h ⊢
    obtain ⟨b0, b1, b2, b3⟩ := num_ok hr h
    refine ⟨?_, wf_mk no_new (Nat.zero_le _) no_pts (Nat.zero_le _) no_ids (Nat.zero_le _) ⟨Int.natCast_nonneg _, by omega⟩, rfl⟩
    unfold tailB
    rw [if_neg (show ¬ (zrec k).kind = 1 from k1), if_neg (show ¬ (zrec k).kind = 2 from k2), if_neg (show ¬ (zrec k).kind = 3 from k3), if_neg (show ¬ (zrec k).kind = 4 from k4)]
    simp only [Int.toNat_natCast]
    exact b1
  · rw [if_neg k5] at h ⊢
    obtain ⟨b0, b1, b2, b3⟩ := num_ok hr h
    refine ⟨?_, wf_mk no_new (Nat.zero_le _) no_pts (Nat.zero_le _) no_ids (Nat.zero_le _) ⟨Int.natCast_nonneg _, by omega⟩, rfl⟩
    unfold tailB
    rw [if_neg (show ¬ (zrec k).kind = 1 from k1), if_neg (show ¬ (zrec k).kind = 2 from k2), if_neg (show ¬ (zrec k).kind = 3 from k3), if_neg (show ¬ (zrec k).kind = 4 from k4)]
    simp only [Int.toNat_natCast]
    exact b1
end law
theorem nil_of {α : Type} {l : List α} (h : decide ((l.length : Int) > 0) = false) : l = [] := List.eq_nil_of_length_eq_zero (by have := of_decide_eq_false h; omega)
theorem shp1 {x : RecD} (h : shapedR x = true) (k : x.kind = 1) : x.ids = [] ∧ x.rng = (0, 0) ∧ x.n = 0 := by
  unfold shapedR partsR at h
  simp only [k, if_true, Bool.and_eq_true, Bool.not_eq_true', Bool.not_eq_false', decide_eq_true_eq] at h
  exact ⟨nil_of h.1, h.2.1, h.2.2⟩
theorem shp2 {x : RecD} (h : shapedR x = true) (k : x.kind = 2) : x.new = [] ∧ x.pts = [] ∧ x.n = 0 := by
  unfold shapedR partsR at h
  have n1 : ¬ ((2 : Int) = 1) := by decide
  simp only [k, n1, if_true, if_false, Bool.and_eq_true, Bool.not_eq_true', Bool.not_eq_false', decide_eq_true_eq] at h
  exact ⟨nil_of h.1, nil_of h.2.1, h.2.2.1⟩
theorem eqP_iff {p q : Ps} (h : eqP p q = true) : p = q := by
  unfold eqP at h
  simp only [Bool.and_eq_true, beq_iff_eq] at h
  obtain ⟨h1, h2, h3, h4, h5⟩ := h
  exact Prod.ext h1 (Prod.ext h2 (Prod.ext h3 (Prod.ext h4 h5)))
theorem parts_inj {x : RecD} {a b c d e : Bool} (h : partsR x = (a, b, c, d, e)) : (a = false → x.new = []) ∧ (b = false → x.pts = []) ∧ (c = false → x.ids = []) ∧ (d = false → x.rng = (0, 0)) ∧ (e = false → x.n = 0) := by
  unfold partsR at h
  simp only [Prod.mk.injEq] at h
  obtain ⟨h1, h2, h3, h4, h5⟩ := h
  refine ⟨fun e => nil_of (h1.trans e), fun e => nil_of (h2.trans e), fun e => nil_of (h3.trans e), fun e => ?_, fun e => ?_⟩
  · have := h4.trans e
    simpa using this
  · have := h5.trans e
    simpa using this
theorem shp3 {x : RecD} (h : shapedR x = true) (k : x.kind = 3) : x.pts = [] ∧ x.ids = [] ∧ x.rng = (0, 0) ∧ x.n = 0 := by
  unfold shapedR at h
  have n1 : ¬ ((3 : Int) = 1) := by decide
  have n2 : ¬ ((3 : Int) = 2) := by decide
  simp only [k, n1, n2, if_true, if_false] at h
  have := parts_inj (eqP_iff h)
  exact ⟨this.2.1 rfl, this.2.2.1 rfl, this.2.2.2.1 rfl, this.2.2.2.2 rfl⟩
theorem shp4 {x : RecD} (h : shapedR x = true) (k : x.kind = 4) : x.pts = [] ∧ x.rng = (0, 0) := by
  unfold shapedR at h
  have n1 : ¬ ((4 : Int) = 1) := by decide
  have n2 : ¬ ((4 : Int) = 2) := by decide
  have n3 : ¬ ((4 : Int) = 3) := by decide
  simp only [k, n1, n2, n3, if_true, if_false, Bool.and_eq_true] at h
  have := parts_inj (eqP_iff h.1)
  exact ⟨this.2.1 rfl, this.2.2.2.1 rfl⟩
theorem shp5 {x : RecD} (h : shapedR x = true) (k : x.kind = 5) : x.new = [] ∧ x.pts = [] ∧ x.ids = [] ∧ x.rng = (0, 0) := by
  unfold shapedR at h
  have n1 : ¬ ((5 : Int) = 1) := by decide
  have n2 : ¬ ((5 : Int) = 2) := by decide
  have n3 : ¬ ((5 : Int) = 3) := by decide
  have n4 : ¬ ((5 : Int) = 4) := by decide
  have n6 : ¬ ((5 : Int) = 6) := by decide
  simp only [k, n1, n2, n3, n4, n6, if_true, if_false] at h
  have := parts_inj (eqP_iff h)
  exact ⟨this.1 rfl, this.2.1 rfl, this.2.2.1 rfl, this.2.2.2.1 rfl⟩
theorem shp6 {x : RecD} (h : shapedR x = true) (k : x.kind = 6) : x.new = [] ∧ x.pts = [] ∧ x.ids = [] ∧ x.rng = (0, 0) ∧ x.n ≤ 35184372088832 := by
  unfold shapedR at h
  have n1 : ¬ ((6 : Int) = 1) := by decide
  have n2 : ¬ ((6 : Int) = 2) := by decide
  have n3 : ¬ ((6 : Int) = 3) := by decide
  have n4 : ¬ ((6 : Int) = 4) := by decide
  simp only [k, n1, n2, n3, n4, if_true, if_false, Bool.and_eq_true, Bool.not_eq_true', decide_eq_false_iff_not] at h
  have := parts_inj (eqP_iff h.2)
  exact ⟨this.1 rfl, this.2.1 rfl, this.2.2.1 rfl, this.2.2.2.1 rfl, by omega⟩
/-- What was put is read. -/
theorem body_at {bs : List UInt8} {x : RecD} {i j : Nat} (hc : checkR x = true) (w : WfR x) (h : At bs i (tailB x) j) : Eqv (bodyM bs x.kind (i, 0)).1 x ∧ (bodyM bs x.kind (i, 0)).2 = (j, 0) := by
  obtain ⟨hs, hr1, hr2, hp4, ho1, ho2⟩ := check_parts hc
  have hk := shaped_kind hs
  have hN := fun {i j : Nat} (h : At bs i (nmB x.new) j) => eachN_at h hr1 w.uN (List.all_eq_true.1 ho1)
  have hI := fun {i j : Nat} (h : At bs i (idsB x.ids) j) => eachI_at h hr2 w.uI
  have hP := fun {i j : Nat} (h : At bs i (ptB x.pts) j) => eachP_at h hp4 w.uP (List.all_eq_true.1 ho2)
  obtain ⟨u0, u1⟩ := w.un
  have en : (x.n.toNat : Int) = x.n := Int.toNat_of_nonneg u0
  unfold tailB at h
  unfold bodyM
  by_cases k1 : x.kind = 1
  · rw [if_pos k1] at h ⊢
    obtain ⟨k, h1, h2⟩ := At.split h
    obtain ⟨e1, e2, e3⟩ := shp1 hs k1
    obtain ⟨a1, a2⟩ := hN h1
    obtain ⟨b1, b2⟩ := hP h2
    rw [a2, b2, a1, b1]
    exact ⟨⟨rfl, toNm_nk _, rfl, e1.symm, e2.symm, e3.symm⟩, rfl⟩
  rw [if_neg k1] at h ⊢
  by_cases k2 : x.kind = 2
  · rw [if_pos k2] at h ⊢
    obtain ⟨k, h1, h2⟩ := At.split h
    obtain ⟨k', h3, h4⟩ := At.split h2
    obtain ⟨e1, e2, e3⟩ := shp2 hs k2
    obtain ⟨t0, t1, t2⟩ := shaped_2 hs k2
    obtain ⟨a1, a2⟩ := hI h1
    have b1 := num_at (most := 35184372088832) h3 (by omega) (by omega)
    have c1 := num_at (most := 35184372088832) h4 (by omega) (by omega)
    rw [a2, b1]
    simp only
    rw [c1, a1]
    refine ⟨⟨rfl, by rw [e1]; rfl, e2.symm, rfl, ?_, e3.symm⟩, rfl⟩
    show (((x.rng.1.toNat : Nat) : Int), ((x.rng.1.toNat : Nat) : Int) + (((x.rng.2 - x.rng.1).toNat : Nat) : Int)) = x.rng
    exact Prod.ext (by show ((x.rng.1.toNat : Nat) : Int) = _; omega) (by show ((x.rng.1.toNat : Nat) : Int) + (((x.rng.2 - x.rng.1).toNat : Nat) : Int) = _; omega)
  rw [if_neg k2] at h ⊢
  by_cases k3 : x.kind = 3
  · rw [if_pos k3] at h ⊢
    obtain ⟨e1, e2, e3, e4⟩ := shp3 hs k3
    obtain ⟨a1, a2⟩ := hN h
    rw [a2, a1]
    exact ⟨⟨rfl, toNm_nk _, e1.symm, e2.symm, e3.symm, e4.symm⟩, rfl⟩
  rw [if_neg k3] at h ⊢
  by_cases k4 : x.kind = 4
  · rw [if_pos k4] at h ⊢
    obtain ⟨k, h1, h2⟩ := At.split h
    obtain ⟨k', h3, h4⟩ := At.split h2
    obtain ⟨e1, e2⟩ := shp4 hs k4
    obtain ⟨a1, a2⟩ := hI h1
    have b1 := num_at (most := 18446744073709551615) h3 (by omega) (by omega)
    obtain ⟨c1, c2⟩ := hN h4
    rw [a2, b1]
    simp only
    rw [c2, c1, a1]
    exact ⟨⟨rfl, toNm_nk _, e1.symm, rfl, e2.symm, en⟩, rfl⟩
  rw [if_neg k4] at h ⊢
  by_cases k5 : x.kind = 5
  · rw [if_pos k5]
    obtain ⟨e1, e2, e3, e4⟩ := shp5 hs k5
    have b1 := num_at (most := 18446744073709551615) h (by omega) (by omega)
    rw [b1]
    exact ⟨⟨rfl, by rw [e1]; rfl, e2.symm, e3.symm, e4.symm, en⟩, rfl⟩
  · rw [if_neg k5]
    obtain ⟨e1, e2, e3, e4, e5⟩ := shp6 hs (by omega)
    have b1 := num_at (most := 35184372088832) h (by omega) (by omega)
    rw [b1]
    exact ⟨⟨rfl, by rw [e1]; rfl, e2.symm, e3.symm, e4.symm, en⟩, rfl⟩
theorem chk_eqv {x y : RecD} (h : Eqv x y) : checkR x = checkR y := by
  obtain ⟨h1, h2, h3, h4, h5, h6⟩ := h
  have l : x.new.length = y.new.length := by simpa using congrArg List.length h2
  have n : x.new.map nid = y.new.map nid := by
    have := congrArg (fun l => l.map Prod.fst) h2
    simp only [List.map_map] at this
    exact this
  have o : x.new.all nmOk = y.new.all nmOk := by
    have := congrArg (fun l => l.all fun a => okL a.2) h2
    simp only [List.all_map] at this
    exact this
  have p : partsR x = partsR y := by unfold partsR; rw [l, h3, h4, h5, h6]
  unfold checkR shapedR
  rw [h1, n, o, h3, h4, h5, h6, l, p]
theorem wf_eqv {x y : RecD} (h : Eqv x y) (w : WfR y) : WfR x := by
  obtain ⟨h1, h2, h3, h4, h5, h6⟩ := h
  have l : x.new.length = y.new.length := by simpa using congrArg List.length h2
  have m : ∀ a ∈ x.new, ∃ b ∈ y.new, nk b = nk a := fun a ha => by
    have : nk a ∈ x.new.map nk := List.mem_map_of_mem ha
    rw [h2] at this
    exact List.mem_map.1 this
  obtain ⟨⟨s1, s2, s3, s4⟩, w1, w2, w3, w4, w5⟩ := w
  refine ⟨⟨by omega, fun a ha => ?_, by rw [h3]; exact s3, by rw [h4]; exact s4⟩, fun a ha => ?_, fun a ha => ?_, by rw [h4]; exact w3, by rw [h3]; exact w4, by rw [h6]; exact w5⟩
  · obtain ⟨b, hb, e⟩ := m a ha
    have e2 : b.2.2 = a.2.2 := congrArg (fun p : Int × List Lab => p.2) e
    rw [← e2]; exact s2 b hb
  · obtain ⟨b, hb, e⟩ := m a ha
    have e2 : b.2.2 = a.2.2 := congrArg (fun p : Int × List Lab => p.2) e
    rw [← e2]; exact w1 b hb
  · obtain ⟨b, hb, e⟩ := m a ha
    have e2 : b.1 = a.1 := congrArg (fun p : Int × List Lab => p.1) e
    rw [← e2]; exact w2 b hb

attribute [local congr] bind_cg cond_cg gd_cg
def kindOf (bs : List UInt8) : Int := match bs with
  | [] => 0
  | b :: _ => (b.toNat : Int)
/-- What Read answers. -/
def readM (bs : List UInt8) : RecD × Int :=
  if bs.length = 0 then (rz, 7)
  else if 1 ≤ kindOf bs ∧ kindOf bs ≤ 6 then
    if (bodyM bs (kindOf bs) (1, 0)).2.2 ≠ 0 then (rz, (bodyM bs (kindOf bs) (1, 0)).2.2)
    else if (bodyM bs (kindOf bs) (1, 0)).2.1 < bs.length ∨ 65536 < bs.length ∨ checkR (bodyM bs (kindOf bs) (1, 0)).1 = false then (rz, 190)
    else ((bodyM bs (kindOf bs) (1, 0)).1, 0)
  else (rz, 190)
theorem read_err {bs : List UInt8} (h : (readM bs).2 ≠ 0) : (readM bs).1 = rz := by
  unfold readM at h ⊢
  by_cases h0 : bs.length = 0
  · rw [if_pos h0]
  rw [if_neg h0] at h ⊢
  by_cases hk : 1 ≤ kindOf bs ∧ kindOf bs ≤ 6
  · rw [if_pos hk] at h ⊢
    by_cases he : (bodyM bs (kindOf bs) (1, 0)).2.2 = 0
    · rw [if_neg (fun g => g he)] at h ⊢
      by_cases hc : (bodyM bs (kindOf bs) (1, 0)).2.1 < bs.length ∨ 65536 < bs.length ∨ checkR (bodyM bs (kindOf bs) (1, 0)).1 = false
      · rw [if_pos hc]
      · rw [if_neg hc] at h; exact absurd rfl h
    · rw [if_pos he]
  · rw [if_neg hk]
/-- What is read has, put again, those bytes. -/
theorem read_ok {bs : List UInt8} (h : (readM bs).2 = 0) : checkR (readM bs).1 = true ∧ WfR (readM bs).1 ∧ recB (readM bs).1 = bs ∧ bs.length ≤ 65536 := by
  unfold readM at h ⊢
  by_cases h0 : bs.length = 0
  · rw [if_pos h0] at h; exact absurd h (by simp)
  rw [if_neg h0] at h ⊢
  by_cases hk : 1 ≤ kindOf bs ∧ kindOf bs ≤ 6
  · rw [if_pos hk] at h ⊢
    by_cases he : (bodyM bs (kindOf bs) (1, 0)).2.2 = 0
    · rw [if_neg (fun g => g he)] at h ⊢
      by_cases hc : (bodyM bs (kindOf bs) (1, 0)).2.1 < bs.length ∨ 65536 < bs.length ∨ checkR (bodyM bs (kindOf bs) (1, 0)).1 = false
      · rw [if_pos hc] at h; exact absurd h (by simp)
      · rw [if_neg hc]
        obtain ⟨c1, c2⟩ := not_or.1 hc
        obtain ⟨c2, c3⟩ := not_or.1 c2
        obtain ⟨a1, a2, a3⟩ := body_ok hk (show ((1, 0) : Rs).1 ≤ bs.length by show 1 ≤ _; omega) he
        refine ⟨by simpa using c3, a2, ?_, by omega⟩
        have hle := a1.le
        have hj : (bodyM bs (kindOf bs) (1, 0)).2.1 = bs.length := by omega
        have ht := a1.take
        rw [hj, List.take_length] at ht
        show UInt8.ofNat (bodyM bs (kindOf bs) (1, 0)).1.kind.toNat :: tailB (bodyM bs (kindOf bs) (1, 0)).1 = bs
        rw [a3, ← ht]
        cases bs with
        | nil => exact absurd rfl h0
        | cons b t =>
          show UInt8.ofNat ((b.toNat : Int)).toNat :: t = b :: t
          rw [Int.toNat_natCast, UInt8.ofNat_toNat]
    · rw [if_pos he] at h; exact absurd h he
  · rw [if_neg hk] at h; exact absurd h (by simp)
theorem kind_rec {x : RecD} (hk : 1 ≤ x.kind ∧ x.kind ≤ 6) (t : List UInt8) : kindOf (UInt8.ofNat x.kind.toNat :: t) = x.kind := by
  show (((UInt8.ofNat x.kind.toNat).toNat : Nat) : Int) = _
  rw [ofNat_toNat (by omega)]; omega
/-- What was put is read. -/
theorem read_put {x : RecD} (hc : checkR x = true) (w : WfR x) (hl : (recB x).length ≤ 65536) : Eqv (readM (recB x)).1 x ∧ (readM (recB x)).2 = 0 := by
  have hk := shaped_kind (check_parts hc).1
  have hat : At (recB x) 1 (tailB x) (recB x).length := by
    refine ⟨?_, ?_, [], ?_⟩
    · unfold recB; rw [List.length_cons]; omega
    · unfold recB; rw [List.length_cons]; omega
    · unfold recB; rw [List.append_nil]; rfl
  obtain ⟨b1, b2⟩ := body_at hc w hat
  have kk : kindOf (recB x) = x.kind := kind_rec hk _
  unfold readM
  rw [if_neg (by unfold recB; rw [List.length_cons]; omega), kk, if_pos hk, b2]
  have hcc : ¬ ((recB x).length < (recB x).length ∨ 65536 < (recB x).length ∨ checkR (bodyM (recB x) x.kind (1, 0)).1 = false) := by
    rw [chk_eqv b1, hc]
    rintro (h | h | h)
    · omega
    · omega
    · cases h
  show Eqv (if (0 : Int) ≠ 0 then _ else if _ then _ else _ : RecD × Int).1 x ∧ (if (0 : Int) ≠ 0 then _ else if _ then _ else _ : RecD × Int).2 = 0
  rw [if_neg (fun g => g rfl), if_neg hcc]
  exact ⟨b1, rfl⟩
/-- What lacks its end is none. -/
theorem read_cut {x : RecD} (hc : checkR x = true) (w : WfR x) {k : Nat} (hk : k < (recB x).length) : (readM ((recB x).take k)).2 ≠ 0 := by
  intro h
  obtain ⟨y1, y2, y3, y4⟩ := read_ok h
  have hkx := shaped_kind (check_parts hc).1
  have hky := shaped_kind (check_parts y1).1
  generalize (readM ((recB x).take k)).1 = y at y1 y2 y3 hky
  have hlen : (recB y).length = k := by rw [y3, List.length_take]; omega
  have hax : At (recB x) 1 (tailB x) (recB x).length := by
    refine ⟨?_, ?_, [], ?_⟩
    · unfold recB; rw [List.length_cons]; omega
    · unfold recB; rw [List.length_cons]; omega
    · unfold recB; rw [List.append_nil]; rfl
  have e : recB x = recB y ++ (recB x).drop k := by rw [y3, List.take_append_drop]
  have hay : At (recB x) 1 (tailB y) k := by
    refine ⟨?_, ?_, (recB x).drop k, ?_⟩
    · rw [← hlen]; unfold recB; rw [List.length_cons]; omega
    · unfold recB; rw [List.length_cons]; omega
    · have := congrArg (List.drop 1) e
      rw [this]; rfl
  have kxy : x.kind = y.kind := by
    have h1 := kind_rec hkx (tailB x)
    have h2 := kind_rec hky (tailB y ++ (recB x).drop k)
    have : kindOf (recB x) = kindOf (recB y ++ (recB x).drop k) := congrArg kindOf e
    rw [← h1, ← h2]; exact this
  have bx := (body_at hc w hax).2
  have by1 := (body_at y1 y2 hay).2
  rw [kxy, by1] at bx
  have : k = (recB x).length := congrArg Prod.fst bx
  omega
theorem al72 (s : SH) : allocD Try.prog s 72 = some (pr s.n, newD s (.row (enR rz))) := alloc_at zr72
theorem bld72_0 : buildD Try.prog 72 [] = some (.agg (enR rz).toArray) := by kernel_rfl
theorem bld72_k (k : Int) : buildD Try.prog 72 [(0, .int .i64 k)] = some (.agg (enR (zrec k)).toArray) := by kernel_rfl
theorem bld153 (m : Nat) (bs : List UInt8) : buildD Try.prog 153 [(0, sl by' m bs), (1, .int .i64 1)] = some (.agg (rdr m bs (1, 0)).toArray) := by kernel_rfl
theorem bx_rd (s : SH) (m : Nat) (bs : List UInt8) (r : Rs) : boxD s (.agg (rdr m bs r).toArray) = some (pr s.n, newD s (.row (rdr m bs r))) := box_at rfl rfl
theorem c44 {n m : Nat} {s : SH} (bs : List UInt8) (hb : bs.length < 2 ^ 46) : ∃ x s', callD Try.prog AB (n + 11) (.fn 44) [sl by' m bs] s = some [(.tuple #[.agg (enR x).toArray, .int .i64 (readM bs).2], s')] ∧ Eqv x (readM bs).1 ∧ Sm s.n s s' := by
  have e0 : Eqv rz rz := ⟨rfl, rfl, rfl, rfl, rfl, rfl⟩
  rw [call_fn (fn := Try.f44) rfl rfl (by kernel_rfl)]
  show ∃ x s', bodyD Try.prog false _ _ 44 Try.f44 _ s = _ ∧ _
  rw [f44_r]
  have g0 : HP.get (newD s (.row (enR rz))).h s.n = some (.row (enR rz)) := get_new rfl
  have m0 : Sm s.n s (newD s (.row (enR rz))) := (Sm.refl s.n s).new (Nat.le_refl _) _
  simp only [f44, o_bool, o_alloc, o_box, o_build, o_buildSlice, o_load, o_store, o_nilCheck, o_bop, o_uop, o_conv, o_slc, o_fieldAddr, o_field, o_indexAddr, o_index, o_extract, o_lookup, o_mapUpdate, o_makeMap, o_mapEntry, o_entryStore, o_delete, o_len, o_append, o_min, o_max, o_tgt, bindS, many1, jnE, boolS, gdB, fst', snd', al72, len_sl u35, bop_eql]
  unfold readM
  by_cases h0 : bs.length = 0
  · have h0' : (bs.length : Int) = 0 := by omega
    simp only [h0', decide_true, condT, bld72_0, sr g0, o_bool, o_alloc, o_box, o_build, o_buildSlice, o_load, o_store, o_nilCheck, o_bop, o_uop, o_conv, o_slc, o_fieldAddr, o_field, o_indexAddr, o_index, o_extract, o_lookup, o_mapUpdate, o_makeMap, o_mapEntry, o_entryStore, o_delete, o_len, o_append, o_min, o_max, o_tgt, bindS, many1, jnE, boolS, gdB, fst', snd', lr (get_put_same (H := HP) _), h0, if_true]
    exact ⟨rz, _, rfl, e0, m0.put (Nat.le_refl _) _⟩
  have h0' : ¬ (bs.length : Int) = 0 := by omega
  have hpos : 0 < bs.length := by omega
  have ix : indexAddrD Try.prog 35 (sl by' m bs) (.int .i64 0) = some (fpV (by' (bs[0]'hpos)).toArray 0) := ixs35 by_len (i := 0) hpos
  have hk : kindOf bs = ((bs[0]'hpos).toNat : Int) := by
    cases bs with
    | nil => exact absurd rfl h0
    | cons b t => rfl
  have hb8 : (bs[0]'hpos).toNat < 256 := (bs[0]'hpos).toNat_lt
  have hw : IntKind.i64.wrap (((bs[0]'hpos).toNat : Nat) : Int) = kindOf bs := by rw [hk]; exact wrap_i64 (by omega) (by omega)
  have q1 : HP.get (newD (newD s (.row (enR rz))) (.row (enR rz))).h (s.n + 1) = some (.row (enR rz)) := get_new (by rw [newD_n])
  simp only [h0', decide_false, condF, ix, ld_by, o_bool, o_alloc, o_box, o_build, o_buildSlice, o_load, o_store, o_nilCheck, o_bop, o_uop, o_conv, o_slc, o_fieldAddr, o_field, o_indexAddr, o_index, o_extract, o_lookup, o_mapUpdate, o_makeMap, o_mapEntry, o_entryStore, o_delete, o_len, o_append, o_min, o_max, o_tgt, bindS, many1, jnE, boolS, gdB, fst', snd', conv_int u5 u3, hw, bld72_k, newD_n, sr q1, bld153, bx_rd, putD_n, h0, if_false]
  have q0 : HP.get (newD (putD (newD (newD s (.row (enR rz))) (.row (enR rz))) (s.n + 1) (.row (enR (zrec (kindOf bs))))) (.row (rdr m bs (1, 0)))).h s.n = some (.row (enR rz)) := by rw [get_old (by rw [putD_n, newD_n, newD_n]; omega), get_put_other (by omega), get_old (by rw [newD_n]; omega), g0]
  have q2 : HP.get (newD (putD (newD (newD s (.row (enR rz))) (.row (enR rz))) (s.n + 1) (.row (enR (zrec (kindOf bs))))) (.row (rdr m bs (1, 0)))).h (s.n + 1) = some (.row (enR (zrec (kindOf bs)))) := by rw [get_old (by rw [putD_n, newD_n, newD_n]; omega), get_put_same]
  have q3 : HP.get (newD (putD (newD (newD s (.row (enR rz))) (.row (enR rz))) (s.n + 1) (.row (enR (zrec (kindOf bs))))) (.row (rdr m bs (1, 0)))).h (s.n + 1 + 1) = some (.row (rdr m bs (1, 0))) := get_new (by rw [putD_n, newD_n, newD_n])
  have m1 : Sm s.n s (newD (putD (newD (newD s (.row (enR rz))) (.row (enR rz))) (s.n + 1) (.row (enR (zrec (kindOf bs))))) (.row (rdr m bs (1, 0)))) := ((m0.new (by rw [newD_n]; omega) _).put (by omega) _).new (by rw [putD_n, newD_n, newD_n]; omega) _
  have hn : s.n + 3 ≤ (newD (putD (newD (newD s (.row (enR rz))) (.row (enR rz))) (s.n + 1) (.row (enR (zrec (kindOf bs))))) (.row (rdr m bs (1, 0)))).n := by rw [newD_n, putD_n, newD_n, newD_n]; omega
  generalize newD (putD (newD (newD s (.row (enR rz))) (.row (enR rz))) (s.n + 1) (.row (enR (zrec (kindOf bs))))) (.row (rdr m bs (1, 0))) = s1 at q0 q2 q3 m1 hn
  by_cases hkk : 1 ≤ kindOf bs ∧ kindOf bs ≤ 6
  case neg =>
    simp only [c100_no (n := n + 9) (q := s.n + 1 + 1) q2 hkk, o_bool, o_alloc, o_box, o_build, o_buildSlice, o_load, o_store, o_nilCheck, o_bop, o_uop, o_conv, o_slc, o_fieldAddr, o_field, o_indexAddr, o_index, o_extract, o_lookup, o_mapUpdate, o_makeMap, o_mapEntry, o_entryStore, o_delete, o_len, o_append, o_min, o_max, o_tgt, bindS, many1, jnE, boolS, gdB, fst', snd', uop_not, Bool.not_false, condT, bld72_0, sr q0, lr (get_put_same (H := HP) _), if_neg hkk]
    exact ⟨rz, _, rfl, e0, m1.put (Nat.le_refl _) _⟩
  obtain ⟨v, s2, e2, ev, bq⟩ := c100 (n := n) (m := m) (q := s.n + 1 + 1) (x := s.n + 1) (s := s1) (bs := bs) (r := (1, 0)) (k := kindOf bs) (by omega) (by omega) (by omega) q3 q2 (by show 1 ≤ bs.length; omega) hb hkk
  have hbo := fun h => body_ok (bs := bs) (r := (1, 0)) hkk (show ((1, 0) : Rs).1 ≤ bs.length by show 1 ≤ _; omega) h
  rw [if_pos hkk]
  generalize bodyM bs (kindOf bs) (1, 0) = y at ev bq hbo
  obtain ⟨yr, ⟨yi, ye⟩⟩ := y
  simp only at ev bq hbo
  have p0 : HP.get s2.h s.n = some (.row (enR rz)) := by rw [bq.2.1 _ (by omega) (by omega) (by omega), q0]
  have m2 : Sm s.n s s2 := ⟨Nat.le_trans m1.1 bq.1, fun j hj => by rw [bq.2.1 _ (by have := m1.1; omega) (by omega) (by omega), m1.2 _ hj]⟩
  have p1 : HP.get (putD s2 s.n (.row (enR rz))).h (s.n + 1 + 1) = some (.row (rdr m bs (yi, ye))) := by rw [get_put_other (by omega), bq.2.2.1]
  simp only [e2, o_bool, o_alloc, o_box, o_build, o_buildSlice, o_load, o_store, o_nilCheck, o_bop, o_uop, o_conv, o_slc, o_fieldAddr, o_field, o_indexAddr, o_index, o_extract, o_lookup, o_mapUpdate, o_makeMap, o_mapEntry, o_entryStore, o_delete, o_len, o_append, o_min, o_max, o_tgt, bindS, many1, jnE, boolS, gdB, fst', snd', uop_not, Bool.not_true, condF, nc, fld153_1, fld153_2, lrd2 bq.2.2.1, b_neq, ne_eq]
  by_cases he : ye = 0
  case neg =>
    simp only [he, decide_false, Bool.not_false, condT, bld72_0, sr p0, o_bool, o_alloc, o_box, o_build, o_buildSlice, o_load, o_store, o_nilCheck, o_bop, o_uop, o_conv, o_slc, o_fieldAddr, o_field, o_indexAddr, o_index, o_extract, o_lookup, o_mapUpdate, o_makeMap, o_mapEntry, o_entryStore, o_delete, o_len, o_append, o_min, o_max, o_tgt, bindS, many1, jnE, boolS, gdB, fst', snd', nc, fld153_2, lrd2 bq.2.2.1, lrd2 p1, eqO_s, Bool.and_self, lr (get_put_same (H := HP) _), not_false_eq_true, if_true]
    exact ⟨rz, _, rfl, e0, m2.put (Nat.le_refl _) _⟩
  subst he
  simp only [decide_true, Bool.not_true, condF, lrd1 bq.2.2.1, len_sl u35, o_bool, o_alloc, o_box, o_build, o_buildSlice, o_load, o_store, o_nilCheck, o_bop, o_uop, o_conv, o_slc, o_fieldAddr, o_field, o_indexAddr, o_index, o_extract, o_lookup, o_mapUpdate, o_makeMap, o_mapEntry, o_entryStore, o_delete, o_len, o_append, o_min, o_max, o_tgt, bindS, many1, jnE, boolS, gdB, fst', snd', bop_lss, not_true_eq_false, if_false]
  have bad : ∃ x s', ((buildD Try.prog 72 []).bind fun v52 => (storeD Try.prog s2 72 (pr s.n) v52).bind fun s53 => (loadD Try.prog s53 72 (pr s.n)).bind fun v54 => some [(Value.tuple #[v54, Value.int .i64 190], s53)]) = some [(.tuple #[.agg (enR x).toArray, .int .i64 190], s')] ∧ Eqv x rz ∧ Sm s.n s s' := by
    simp only [bld72_0, bindS, sr p0, lr (get_put_same (H := HP) _)]
    exact ⟨rz, _, rfl, e0, m2.put (Nat.le_refl _) _⟩
  have hv := hbo rfl
  by_cases h1 : yi < bs.length
  · have h1' : (yi : Int) < bs.length := by omega
    simp only [h1', decide_true, condT, h1, true_or, if_true]
    exact bad
  have h1' : ¬ (yi : Int) < bs.length := by omega
  by_cases h2 : 65536 < bs.length
  · have h2' : (bs.length : Int) > 65536 := by omega
    simp only [h1', decide_false, condF, len_sl u35, o_bool, o_alloc, o_box, o_build, o_buildSlice, o_load, o_store, o_nilCheck, o_bop, o_uop, o_conv, o_slc, o_fieldAddr, o_field, o_indexAddr, o_index, o_extract, o_lookup, o_mapUpdate, o_makeMap, o_mapEntry, o_entryStore, o_delete, o_len, o_append, o_min, o_max, o_tgt, bindS, many1, jnE, boolS, gdB, fst', snd', bop_gtr, h2', decide_true, condT, h2, true_or, or_true, if_true]
    exact bad
  have h2' : ¬ (bs.length : Int) > 65536 := by omega
  have h95 := c95 (n := n + 4) (s := s2) v (wf_eqv ev hv.2.1).small (wf_eqv ev hv.2.1).labs
  rw [chk_eqv ev] at h95
  simp only [h1', decide_false, condF, len_sl u35, o_bool, o_alloc, o_box, o_build, o_buildSlice, o_load, o_store, o_nilCheck, o_bop, o_uop, o_conv, o_slc, o_fieldAddr, o_field, o_indexAddr, o_index, o_extract, o_lookup, o_mapUpdate, o_makeMap, o_mapEntry, o_entryStore, o_delete, o_len, o_append, o_min, o_max, o_tgt, bindS, many1, jnE, boolS, gdB, fst', snd', bop_gtr, h2', lr bq.2.2.2, h95, b_neq]
  cases hc : checkR yr with
  | false =>
    have n190 : ¬ ((190 : Int) = 0) := by decide
    simp only [Bool.false_eq_true, if_false, n190, decide_false, Bool.not_false, condT, or_true, if_true]
    exact bad
  | true =>
    simp only [if_true, decide_true, Bool.not_true, condF, sr p0, lr (get_put_same (H := HP) _), o_bool, o_alloc, o_box, o_build, o_buildSlice, o_load, o_store, o_nilCheck, o_bop, o_uop, o_conv, o_slc, o_fieldAddr, o_field, o_indexAddr, o_index, o_extract, o_lookup, o_mapUpdate, o_makeMap, o_mapEntry, o_entryStore, o_delete, o_len, o_append, o_min, o_max, o_tgt, bindS, many1, jnE, boolS, gdB, fst', snd', h1, h2, Bool.true_eq_false, or_self, if_false]
    exact ⟨v, _, rfl, ev, m2.put (Nat.le_refl _) _⟩
end Go.Proofs.Ytmhmbmogodofeaa.S
