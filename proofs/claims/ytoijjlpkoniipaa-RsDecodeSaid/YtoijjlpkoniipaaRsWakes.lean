/- Codes: the example. -/
import Derived.Test.YtoijjlpkoniipaaRsPlain
set_option linter.unusedVariables false
set_option linter.unusedSimpArgs false
namespace Go.Proofs.Ytoijjlpkoniipaa
open Go.RowKit Go.Proofs.YtoijjlpkoniipaaW.PrintWords Go.Proofs.YtoijjlpkoniipaaW.PrintLast Gf Lin Go.ChangeShapes Go.WideShapes
theorem Below.alloc1 (w : World) (o : Obj) : Below w.heap.size w (w.alloc o) := (Below.refl _ _).alloc (Nat.le_refl _) _
theorem bytes1 {w : World} {g : Nat} {b : UInt8} {n : Int} (h : w.heap[g]? = some (.cells #[.int .u8 n] 5)) (hn : n = (b.toNat : Int)) : RS w (some ⟨g, 0, none⟩) 1 1 [b] :=
  ⟨Nat.le_refl _, C_of_cells (A := some ⟨g, 0, none⟩) [b] (by simp) (fun _ => ⟨_, rfl, fun j hj => by
    have hj0 : j = 0 := by simpa using hj
    subst hj0
    rw [add_at, cell_of_row _ _ _ _ _ _ h, hn]; rfl⟩)⟩
theorem rows2 {w : World} {g : Nat} {A B : Option Addr} {p q c d : Nat} {r s : List UInt8} (h : w.heap[g]? = some (.cells #[.slice A p c, .slice B q d] 35)) (h1 : RS w A p c r) (h2 : RS w B q d s) : RD w (some ⟨g, 0, none⟩) 2 2 [r, s] := by
  have e1 := h1.len
  have e2 := h2.len
  subst e1; subst e2
  refine ⟨Nat.le_refl _, CC_of_cells (A := some ⟨g, 0, none⟩) [r, s] (by simp) (fun _ => ⟨_, rfl, fun j hj => ?_⟩)⟩
  have hj2 : j < 2 := by simpa using hj
  rw [add_at]
  rcases Nat.lt_or_ge j 1 with h0 | h0
  · obtain rfl : j = 0 := by omega
    exact ⟨A, c, by rw [cell_of_row _ _ _ _ _ _ h]; rfl, h1.le, h1.rd⟩
  · obtain rfl : j = 1 := by omega
    exact ⟨B, d, by rw [cell_of_row _ _ _ _ _ _ h]; rfl, h2.le, h2.rd⟩
theorem ints2 {w : World} {g : Nat} {a b : Int} (h : w.heap[g]? = some (.cells #[.int .i64 a, .int .i64 b] 3)) : RI w (some ⟨g, 0, none⟩) 2 2 [a, b] :=
  ⟨Nat.le_refl _, C_ints (A := some ⟨g, 0, none⟩) (zs := [a, b]) (by simp) (fun _ => ⟨_, rfl, fun j hj => by
    have hj2 : j < 2 := by simpa using hj
    rw [add_at, cell_of_row _ _ _ _ _ _ h]
    rcases Nat.lt_or_ge j 1 with h0 | h0
    · obtain rfl : j = 0 := by omega
      rfl
    · obtain rfl : j = 1 := by omega
      rfl⟩)⟩
theorem wk_alike : Alike ([[1], [2]] : List (List UInt8)) := by
  intro r hr
  rcases List.mem_cons.1 hr with e | e
  · rw [e]; rfl
  · rw [List.mem_singleton.1 e]; rfl
theorem wk_piece (j : Nat) (hj : j < 3) : (gr (encB 2 3 ([[1], [2]] : List (List UInt8))) j).length = 1 := by rw [encB_row _ hj]; simp [sumB]
theorem wk_dec' {p2 p0 : List UInt8} (h2 : p2 = sumB ((List.range 2).map (codeM 2 2)) [[1], [2]]) (h0 : p0 = sumB ((List.range 2).map (codeM 2 0)) [[1], [2]]) {x : List (List UInt8)} {ev : Int} (h : DecP 2 3 [2, 0] [p2, p0] x ev) : ev = 0 ∧ x = [[1], [2]] := by
  have l2 : p2.length = 1 := by rw [h2]; simp [sumB]
  have l0 : p0.length = 1 := by rw [h0]; simp [sumB]
  have hw : docWrong 2 3 [2, 0] [p2, p0] = 0 := by
    refine docWrong_0 ⟨rfl, alike_len_of (L := 1) fun r hr => ?_⟩ ⟨fun z hz => ?_, by decide⟩ (by decide)
    · rcases List.mem_cons.1 hr with e | e
      · rw [e]; exact l2
      · rw [List.mem_singleton.1 e]; exact l0
    · rcases List.mem_cons.1 hz with e | e
      · rw [e]; decide
      · rw [List.mem_singleton.1 e]; decide
  rcases h with ⟨h1, _⟩ | ⟨_, hv, S, h3, _, rfl⟩
  · exact absurd hw h1
  · refine ⟨hv, dec_enc (zs := [2, 0]) (by omega) rfl wk_alike (by simp) (fun a ha => ?_) h3⟩
    rcases Nat.lt_or_ge a 1 with hh | hh
    · obtain rfl : a = 0 := by omega
      exact h2
    · obtain rfl : a = 1 := by omega
      exact h0
theorem wk_dec {x : List (List UInt8)} {ev : Int} (h : DecP 2 3 [2, 0] [gr (encB 2 3 [[1], [2]]) 2, gr (encB 2 3 [[1], [2]]) 0] x ev) : ev = 0 ∧ x = [[1], [2]] := wk_dec' (encB_row _ (by omega)) (encB_row _ (by omega)) h
set_option maxHeartbeats 2000000 in
set_option maxRecDepth 100000 in
theorem wakes09 (w : World) : Calls Try.prog 38 #[] w fun e w' => e = .returned (.bool true) ∧ Below w.heap.size w w' := by
  go_enter Try.func38, Try.ntmps38
  go_wp2_with fail
  refine (make_R w).mono ?_
  rintro e w1 ⟨gt, rfl, ht, hb1⟩
  have HB := Lib.hid hb1
  have hne : Calls Try.prog 46 #[.pointer (some ⟨gt, 0, none⟩), .int .i64 2, .int .i64 3] w1 _ := new_good gt 2 3 (by omega) (by omega) (by omega) w1 ht
  clear ht hb1
  go_wp2_with fail
  refine hne.mono ?_
  clear hne
  rintro e w2 ⟨gc, A, cap, rfl, hc, hb2⟩
  replace HB := Lib.hid (bthen HB.out hb2)
  have HC := Lib.hid hc
  clear hc hb2
  go_wp2_with fail
  obtain ⟨w3, hw3⟩ : ∃ w3, w3 = (((w2.alloc (.cells #[.int .u8 1] 5)).alloc (.cells #[.int .u8 2] 5)).alloc (.cells #[.slice (some ⟨w2.heap.size, 0, none⟩) 1 1, .slice (some ⟨w2.heap.size + 1, 0, none⟩) 1 1] 35)) := ⟨_, rfl⟩
  rw [← hw3]
  have hb3 : Below w2.heap.size w2 w3 := by rw [hw3]; exact (((Below.refl _ _).alloc (Nat.le_refl _) _).alloc (by simp) _).alloc (by simp; omega) _
  have k1 : w3.heap[w2.heap.size]? = some (.cells #[.int .u8 1] 5) := by
    rw [hw3]
    exact (Below.heap_alloc _ _ _ (by simp; omega)).trans ((Below.heap_alloc _ _ _ (by simp)).trans (heap_alloc_new w2 _))
  have k2 : w3.heap[w2.heap.size + 1]? = some (.cells #[.int .u8 2] 5) := by
    rw [hw3]
    refine (Below.heap_alloc _ _ _ (by simp)).trans ?_
    have := heap_alloc_new (w2.alloc (.cells #[.int .u8 1] 5)) (.cells #[.int .u8 2] 5)
    simpa using this
  have k3 : w3.heap[w2.heap.size + 2]? = some (.cells #[.slice (some ⟨w2.heap.size, 0, none⟩) 1 1, .slice (some ⟨w2.heap.size + 1, 0, none⟩) 1 1] 35) := by
    rw [hw3]
    have := heap_alloc_new ((w2.alloc (.cells #[.int .u8 1] 5)).alloc (.cells #[.int .u8 2] 5)) (.cells #[.slice (some ⟨w2.heap.size, 0, none⟩) 1 1, .slice (some ⟨w2.heap.size + 1, 0, none⟩) 1 1] 35)
    simpa using this
  have hen := enc_R (HC.out.below hb3) (rows2 k3 (bytes1 (b := 1) k1 rfl) (bytes1 (b := 2) k2 rfl)) (by omega) (fun r hr => by
    rcases List.mem_cons.1 hr with e | e
    · rw [e]; simp
    · rw [List.mem_singleton.1 e]; simp)
  rw [docEnc_ok (k := 2) (n := 3) (m := [[1], [2]]) rfl wk_alike] at hen
  replace HB := Lib.hid (bthen HB.out hb3)
  replace HC := Lib.hid (HC.out.below hb3)
  clear hb3 k1 k2 k3 hw3
  refine hen.mono ?_
  clear hen
  rintro e wr ⟨D, s, d, ev, rfl, he, hrd, hb4⟩
  obtain rfl : ev = 0 := he
  obtain rfl : s = 3 := by have := hrd.len; rw [encB_length] at this; omega
  obtain ⟨pd, B2, c2, rfl, hx2, hr2⟩ := hrd.row (k := 2) (by omega)
  obtain ⟨pd', B0, c0, hpd, hx0, hr0⟩ := hrd.row0 (by omega)
  cases hpd
  have HE2 : Hid ((gr (encB 2 3 ([[1], [2]] : List (List UInt8))) 2).length = 1) := Lib.hid (wk_piece 2 (by omega))
  have HE0 : Hid ((gr (encB 2 3 ([[1], [2]] : List (List UInt8))) 0).length = 1) := Lib.hid (wk_piece 0 (by omega))
  rw [HE2.out] at hx2 hr2
  rw [HE0.out] at hx0 hr0
  have hx2 : wr.cell? ⟨pd.block, pd.off + 2, none⟩ = some (.slice B2 1 c2) := hx2
  have HP2 := Lib.hid hr2
  have HLE : Hid (∀ r ∈ [gr (encB 2 3 ([[1], [2]] : List (List UInt8))) 2, gr (encB 2 3 [[1], [2]]) 0], r.length ≤ 1000000) := Lib.hid (fun r hr => by
    rcases List.mem_cons.1 hr with e | e
    · rw [e, HE2.out]; omega
    · rw [List.mem_singleton.1 e, HE0.out]; omega)
  have HP0 := Lib.hid hr0
  replace HB := Lib.hid (bthen HB.out hb4)
  replace HC := Lib.hid (HC.out.below hb4)
  have hbd : Below wr.heap.size wr wr.drew := ⟨rfl, rfl, rfl, Nat.le_refl _, fun _ _ => rfl⟩
  clear hr2 hr0 hb4 hrd
  go_wp2
  refine start_ (n := 15) (S := fun w' => w'.cell? ⟨pd.block, pd.off + 2, none⟩ = some (.slice B2 1 c2) ∧ w'.cell? pd = some (.slice B0 1 c0) ∧ Below wr.heap.size wr w') (ds := []) #[false, false, false, false, false, false, false, false, false, false, false, false, false, false, false] (by kernel_rfl) rfl rfl ⟨hx2, hx0, hbd⟩ (fun hHeld => ?_)
  refine pure_ (i := 0) (N := some 30) (v := ?_) (a' := ?_) #[true, false, false, false, false, false, false, false, false, false, false, false, false, false, false] rfl rfl (by kernel_rfl) (fun _ _ _ h => h) (Or.inl ⟨by rfl, ?_⟩) ?_ ?_
  rotate_left
  · intro w'
    go_simp
    with_reducible rfl
  rotate_left
  · simp only [Act.put, List.setIfInBounds_toArray, List.set_cons_zero, List.set_cons_succ, i64_w, i32_w]
    rfl
  refine pure_ (i := 2) (N := some 32) (v := ?_) (a' := ?_) #[true, false, true, false, false, false, false, false, false, false, false, false, false, false, false] rfl rfl (by kernel_rfl) (fun _ _ _ h => h) (Or.inl ⟨by rfl, ?_⟩) ?_ ?_
  rotate_left
  · intro w'
    go_simp
    with_reducible rfl
  rotate_left
  · simp only [Act.put, List.setIfInBounds_toArray, List.set_cons_zero, List.set_cons_succ, i64_w, i32_w]
    rfl
  refine pure_ (i := 3) (N := some 33) (v := ?_) (a' := ?_) #[true, false, true, true, false, false, false, false, false, false, false, false, false, false, false] rfl rfl (by kernel_rfl) (fun _ _ _ h => h) (Or.inl ⟨by rfl, ?_⟩) ?_ ?_
  rotate_left
  · intro w'
    go_simp
    with_reducible rfl
  rotate_left
  · simp only [Act.put, List.setIfInBounds_toArray, List.set_cons_zero, List.set_cons_succ, i64_w, i32_w]
    rfl
  refine pure_ (i := 5) (N := some 35) (v := ?_) (a' := ?_) #[true, false, true, true, false, true, false, false, false, false, false, false, false, false, false] rfl rfl (by kernel_rfl) (fun _ _ _ h => h) (Or.inl ⟨by rfl, ?_⟩) ?_ ?_
  rotate_left
  · intro w'
    go_simp
    with_reducible rfl
  rotate_left
  · simp only [Act.put, List.setIfInBounds_toArray, List.set_cons_zero, List.set_cons_succ, i64_w, i32_w]
    rfl
  refine pure_ (i := 6) (N := some 36) (v := ?_) (a' := ?_) #[true, false, true, true, false, true, true, false, false, false, false, false, false, false, false] rfl rfl (by kernel_rfl) (fun _ _ _ h => h) (Or.inl ⟨by rfl, ?_⟩) ?_ ?_
  rotate_left
  · intro w'
    go_simp
    with_reducible rfl
  rotate_left
  · simp only [Act.put, List.setIfInBounds_toArray, List.set_cons_zero, List.set_cons_succ, i64_w, i32_w]
    rfl
  refine take_ (i := 4) (N := some 34) (v := ?_) (a' := ?_) #[true, false, true, true, true, true, true, false, false, false, false, false, false, false, false] rfl rfl (by kernel_rfl) (fun _ _ _ h => h) (Or.inl ⟨by rfl, ?_⟩) hHeld ?_ ?_
  rotate_left
  · rintro w' ⟨s0, s1, s2⟩
    go_simp
    with_reducible rfl
  rotate_left
  · simp only [Act.put, List.setIfInBounds_toArray, List.set_cons_zero, List.set_cons_succ, i64_w, i32_w]
    rfl
  refine take_ (i := 7) (N := some 37) (v := ?_) (a' := ?_) #[true, false, true, true, true, true, true, true, false, false, false, false, false, false, false] rfl rfl (by kernel_rfl) (fun _ _ _ h => h) (Or.inl ⟨by rfl, ?_⟩) hHeld ?_ ?_
  rotate_left
  · rintro w' ⟨s0, s1, s2⟩
    go_simp
    with_reducible rfl
  rotate_left
  · simp only [Act.put, List.setIfInBounds_toArray, List.set_cons_zero, List.set_cons_succ, i64_w, i32_w]
    rfl
  refine join_ (σ := Nat × Nat) 6 #[true, true, true, true, true, true, true, true, true, false, false, false, false, false, false] (fun s => [(31, .slice (some ⟨s.1, 0, none⟩) 2 2), (38, .slice (some ⟨s.2, 0, none⟩) 2 2)]) (fun s w' => w'.heap[s.1]? = some (.cells #[.int .i64 2, .int .i64 0] 3) ∧ w'.heap[s.2]? = some (.cells #[.slice B2 1 c2, .slice B0 1 c0] 35) ∧ w'.cell? ⟨pd.block, pd.off + 2, none⟩ = some (.slice B2 1 c2) ∧ w'.cell? pd = some (.slice B0 1 c0) ∧ Below wr.heap.size wr w') ?_ ?_
  rotate_left
  · intro hCont
    refine two_ (i := 1) (j := 8) (Ni := some 31) (Nj := some 38) #[true, true, true, true, true, true, true, true, false, false, false, false, false, false, false] #[true, false, true, true, true, true, true, true, true, false, false, false, false, false, false] rfl rfl rfl rfl (by kernel_rfl) (by decide) (by decide) (fun K hK => ?_) (fun K hK => ?_)
    · skip
      refine value_ (w1 := ?_) (v := ?_) (by rfl) rfl ?_ ?_
      rotate_left 2
      · go_simp
        constructor
        · rfl
        · rfl
      have e0_1 : (wr.drew.alloc (.cells #[.int .i64 2, .int .i64 0] 3)).cell? ⟨pd.block, pd.off + 2, none⟩ = some (.slice B2 1 c2) := pw_cell_below (Below.alloc1 _ _) hx2
      have e1_1 : (wr.drew.alloc (.cells #[.int .i64 2, .int .i64 0] 3)).cell? pd = some (.slice B0 1 c0) := pw_cell_below (Below.alloc1 _ _) hx0
      have e2_1 : Below wr.heap.size wr (wr.drew.alloc (.cells #[.int .i64 2, .int .i64 0] 3)) := bthen hbd (Below.alloc1 _ _)
      refine hK.out _ _ ⟨e0_1, e1_1, e2_1⟩ (fun hHeld => ?_)
      clear hK K
      refine norm_ (a' := ?_) ?_ ?_
      rotate_left
      · show Act.put _ (some 31) _ = _
        simp only [Act.put, List.setIfInBounds_toArray, List.set_cons_zero, List.set_cons_succ, i64_w, i32_w]
        rfl
      refine one_ (i := 8) (N := some 38) #[true, true, true, true, true, true, true, true, true, false, false, false, false, false, false] rfl rfl (by kernel_rfl) (by decide) (fun K hK => ?_)
      refine value_ (w1 := ?_) (v := ?_) (by rfl) rfl ?_ ?_
      rotate_left 2
      · go_simp
        constructor
        · rfl
        · rfl
      have e0_18 : ((wr.drew.alloc (.cells #[.int .i64 2, .int .i64 0] 3)).alloc (.cells #[.slice B2 1 c2, .slice B0 1 c0] 35)).cell? ⟨pd.block, pd.off + 2, none⟩ = some (.slice B2 1 c2) := pw_cell_below (Below.alloc1 _ _) e0_1
      have e1_18 : ((wr.drew.alloc (.cells #[.int .i64 2, .int .i64 0] 3)).alloc (.cells #[.slice B2 1 c2, .slice B0 1 c0] 35)).cell? pd = some (.slice B0 1 c0) := pw_cell_below (Below.alloc1 _ _) e1_1
      have e2_18 : Below wr.heap.size wr ((wr.drew.alloc (.cells #[.int .i64 2, .int .i64 0] 3)).alloc (.cells #[.slice B2 1 c2, .slice B0 1 c0] 35)) := bthen e2_1 (Below.alloc1 _ _)
      refine hK.out _ _ ⟨e0_18, e1_18, e2_18⟩ (fun hHeld => ?_)
      clear hK K
      refine norm_ (a' := ?_) ?_ ?_
      rotate_left
      · show Act.put _ (some 38) _ = _
        simp only [Act.put, List.setIfInBounds_toArray, List.set_cons_zero, List.set_cons_succ, i64_w, i32_w]
        rfl
      exact norm_ (by simp only [putAll, Act.put, List.setIfInBounds_toArray, List.set_cons_zero, List.set_cons_succ]) (hCont (wr.heap.size, wr.heap.size + 1) _ ⟨(show ((wr.alloc (.cells #[.int .i64 2, .int .i64 0] 3)).alloc (.cells #[.slice B2 1 c2, .slice B0 1 c0] 35)).heap[wr.heap.size]? = some (.cells #[.int .i64 2, .int .i64 0] 3) from (Below.heap_alloc _ _ _ (by simp)).trans (heap_alloc_new wr _)), (show ((wr.alloc (.cells #[.int .i64 2, .int .i64 0] 3)).alloc (.cells #[.slice B2 1 c2, .slice B0 1 c0] 35)).heap[wr.heap.size + 1]? = some (.cells #[.slice B2 1 c2, .slice B0 1 c0] 35) by have := heap_alloc_new (wr.alloc (.cells #[.int .i64 2, .int .i64 0] 3)) (.cells #[.slice B2 1 c2, .slice B0 1 c0] 35); simpa using this), e0_18, e1_18, e2_18⟩)
    · skip
      refine value_ (w1 := ?_) (v := ?_) (by rfl) rfl ?_ ?_
      rotate_left 2
      · go_simp
        constructor
        · rfl
        · rfl
      have e0_8 : (wr.drew.alloc (.cells #[.slice B2 1 c2, .slice B0 1 c0] 35)).cell? ⟨pd.block, pd.off + 2, none⟩ = some (.slice B2 1 c2) := pw_cell_below (Below.alloc1 _ _) hx2
      have e1_8 : (wr.drew.alloc (.cells #[.slice B2 1 c2, .slice B0 1 c0] 35)).cell? pd = some (.slice B0 1 c0) := pw_cell_below (Below.alloc1 _ _) hx0
      have e2_8 : Below wr.heap.size wr (wr.drew.alloc (.cells #[.slice B2 1 c2, .slice B0 1 c0] 35)) := bthen hbd (Below.alloc1 _ _)
      refine hK.out _ _ ⟨e0_8, e1_8, e2_8⟩ (fun hHeld => ?_)
      clear hK K
      refine norm_ (a' := ?_) ?_ ?_
      rotate_left
      · show Act.put _ (some 38) _ = _
        simp only [Act.put, List.setIfInBounds_toArray, List.set_cons_zero, List.set_cons_succ, i64_w, i32_w]
        rfl
      refine one_ (i := 1) (N := some 31) #[true, true, true, true, true, true, true, true, true, false, false, false, false, false, false] rfl rfl (by kernel_rfl) (by decide) (fun K hK => ?_)
      refine value_ (w1 := ?_) (v := ?_) (by rfl) rfl ?_ ?_
      rotate_left 2
      · go_simp
        constructor
        · rfl
        · rfl
      have e0_81 : ((wr.drew.alloc (.cells #[.slice B2 1 c2, .slice B0 1 c0] 35)).alloc (.cells #[.int .i64 2, .int .i64 0] 3)).cell? ⟨pd.block, pd.off + 2, none⟩ = some (.slice B2 1 c2) := pw_cell_below (Below.alloc1 _ _) e0_8
      have e1_81 : ((wr.drew.alloc (.cells #[.slice B2 1 c2, .slice B0 1 c0] 35)).alloc (.cells #[.int .i64 2, .int .i64 0] 3)).cell? pd = some (.slice B0 1 c0) := pw_cell_below (Below.alloc1 _ _) e1_8
      have e2_81 : Below wr.heap.size wr ((wr.drew.alloc (.cells #[.slice B2 1 c2, .slice B0 1 c0] 35)).alloc (.cells #[.int .i64 2, .int .i64 0] 3)) := bthen e2_8 (Below.alloc1 _ _)
      refine hK.out _ _ ⟨e0_81, e1_81, e2_81⟩ (fun hHeld => ?_)
      clear hK K
      refine norm_ (a' := ?_) ?_ ?_
      rotate_left
      · show Act.put _ (some 31) _ = _
        simp only [Act.put, List.setIfInBounds_toArray, List.set_cons_zero, List.set_cons_succ, i64_w, i32_w]
        rfl
      exact norm_ (by simp only [putAll, Act.put, List.setIfInBounds_toArray, List.set_cons_zero, List.set_cons_succ]) (hCont (wr.heap.size + 1, wr.heap.size) _ ⟨(show ((wr.alloc (.cells #[.slice B2 1 c2, .slice B0 1 c0] 35)).alloc (.cells #[.int .i64 2, .int .i64 0] 3)).heap[wr.heap.size + 1]? = some (.cells #[.int .i64 2, .int .i64 0] 3) by have := heap_alloc_new (wr.alloc (.cells #[.slice B2 1 c2, .slice B0 1 c0] 35)) (.cells #[.int .i64 2, .int .i64 0] 3); simpa using this), (show ((wr.alloc (.cells #[.slice B2 1 c2, .slice B0 1 c0] 35)).alloc (.cells #[.int .i64 2, .int .i64 0] 3)).heap[wr.heap.size]? = some (.cells #[.slice B2 1 c2, .slice B0 1 c0] 35) from (Below.heap_alloc _ _ _ (by simp)).trans (heap_alloc_new wr _)), e0_81, e1_81, e2_81⟩)
  rintro ⟨g31, g38⟩ w7 ⟨k31, k38, hHeld⟩
  refine norm_ (a' := ?_) ?_ ?_
  rotate_left
  · simp only [putAll, Act.put, List.setIfInBounds_toArray, List.set_cons_zero, List.set_cons_succ]
    rfl
  refine one_ (i := 9) (N := some 39) #[true, true, true, true, true, true, true, true, true, true, false, false, false, false, false] rfl rfl (by kernel_rfl) (by decide) (fun K hK => ?_)
  have hdec := dec_R (HC.out.below hHeld.2.2) (ints2 k31) (by omega) (rows2 k38 (HP2.out.below hHeld.2.2) (HP0.out.below hHeld.2.2)) (by omega) HLE.out
  refine goes_ Try.func47 (by kernel_rfl) rfl #[.pointer (some ⟨gc, 0, none⟩), .slice (some ⟨g31, 0, none⟩) 2 2, .slice (some ⟨g38, 0, none⟩) 2 2] (by rfl) rfl rfl (by simp only [List.map_toArray, List.map_cons, List.map_nil]; rfl) ?_
  with_reducible refine (hdec).mono ?_
  rintro e w8 ⟨D8, s8, d8, x8, ev8, rfl, hp8, hr8, hb8⟩
  refine ⟨_, rfl, ?_⟩
  have HP8 := Lib.hid hp8
  have HR8 := Lib.hid hr8
  have hb9 := bthen hHeld.2.2 hb8
  have f1 := pw_cell_below hb8 hHeld.1
  have f2 := pw_cell_below hb8 hHeld.2.1
  have HB8 := Lib.hid (bthen HB.out hb9)
  clear hp8 hr8 hb8 hdec
  refine hK.out _ _ ⟨f1, f2, hb9⟩ (fun hHeld => ?_)
  clear hK K
  refine norm_ (a' := ?_) ?_ ?_
  rotate_left
  · show Act.put _ (some 39) _ = _
    simp only [Act.put, List.setIfInBounds_toArray, List.set_cons_zero, List.set_cons_succ, i64_w, i32_w]
    rfl
  refine pure_ (i := 10) (N := some 29) (v := ?_) (a' := ?_) #[true, true, true, true, true, true, true, true, true, true, true, false, false, false, false] rfl rfl (by kernel_rfl) (fun _ _ _ h => h) (Or.inl ⟨by rfl, ?_⟩) ?_ ?_
  rotate_left
  · intro w'
    go_simp
    with_reducible rfl
  rotate_left
  · simp only [Act.put, List.setIfInBounds_toArray, List.set_cons_zero, List.set_cons_succ, i64_w, i32_w]
    rfl
  refine pure_ (i := 11) (N := some 40) (v := ?_) (a' := ?_) #[true, true, true, true, true, true, true, true, true, true, true, true, false, false, false] rfl rfl (by kernel_rfl) (fun _ _ _ h => h) (Or.inl ⟨by rfl, ?_⟩) ?_ ?_
  rotate_left
  · intro w'
    go_simp
    with_reducible rfl
  rotate_left
  · simp only [Act.put, List.setIfInBounds_toArray, List.set_cons_zero, List.set_cons_succ, i64_w, i32_w]
    rfl
  refine pure_ (i := 12) (N := some 41) (v := ?_) (a' := ?_) #[true, true, true, true, true, true, true, true, true, true, true, true, true, false, false] rfl rfl (by kernel_rfl) (fun _ _ _ h => h) (Or.inl ⟨by rfl, ?_⟩) ?_ ?_
  rotate_left
  · intro w'
    go_simp
    with_reducible rfl
  rotate_left
  · simp only [Act.put, List.setIfInBounds_toArray, List.set_cons_zero, List.set_cons_succ, i64_w, i32_w]
    rfl
  refine pure_ (i := 13) (N := some 5) (v := ?_) (a' := ?_) #[true, true, true, true, true, true, true, true, true, true, true, true, true, true, false] rfl rfl (by kernel_rfl) (fun _ _ _ h => h) (Or.inl ⟨by rfl, ?_⟩) ?_ ?_
  rotate_left
  · intro w'
    go_simp
    with_reducible rfl
  rotate_left
  · simp only [Act.put, List.setIfInBounds_toArray, List.set_cons_zero, List.set_cons_succ, i64_w, i32_w]
    rfl
  refine pure_ (i := 14) (N := some 6) (v := ?_) (a' := ?_) #[true, true, true, true, true, true, true, true, true, true, true, true, true, true, true] rfl rfl (by kernel_rfl) (fun _ _ _ h => h) (Or.inl ⟨by rfl, ?_⟩) ?_ ?_
  rotate_left
  · intro w'
    go_simp
    with_reducible rfl
  rotate_left
  · simp only [Act.put, List.setIfInBounds_toArray, List.set_cons_zero, List.set_cons_succ, i64_w, i32_w]
    rfl
  refine done_ (by kernel_rfl) ?_
  obtain ⟨rfl, rfl⟩ := wk_dec HP8.out
  obtain rfl : s8 = 2 := by have := HR8.out.len; simpa using this.symm
  obtain ⟨qd, B1, c1, rfl, hy1, hr1⟩ := HR8.out.row (k := 1) (by omega)
  have e1 : gr ([[1], [2]] : List (List UInt8)) 1 = [2] := rfl
  rw [e1] at hy1 hr1
  have el : ([2] : List UInt8).length = 1 := rfl
  rw [el] at hy1 hr1
  have hy1 : w8.cell? ⟨qd.block, qd.off + 1, none⟩ = some (.slice B1 1 c1) := hy1
  have HR1 := Lib.hid hr1
  clear e1 el hr1 hbd hb9 f1 f2 hx2 hx0
  go_wp2_with fail
  obtain ⟨w9, hw9⟩ : ∃ w9, w9 = w8.alloc (.cells #[.int .u8 2] 5) := ⟨_, rfl⟩
  rw [← hw9]
  have hb9 : Below w8.heap.size w8 w9 := by rw [hw9]; exact Below.alloc1 _ _
  have k9 : w9.heap[w8.heap.size]? = some (.cells #[.int .u8 2] 5) := by rw [hw9]; exact heap_alloc_new w8 _
  have hsm := same_R (HR1.out.below hb9) (bytes1 (b := 2) k9 rfl)
  have HB9 := Lib.hid (bthen HB8.out hb9)
  clear hb9 k9 hw9
  refine hsm.mono ?_
  clear hsm
  rintro e w10 ⟨rfl, hb10⟩
  have HB10 := Lib.hid (bthen HB9.out hb10)
  clear hb10
  go_wp2_with fail
  go_ret
  exact ⟨rfl, HB10.out⟩
end Go.Proofs.Ytoijjlpkoniipaa
