/- Codes: the law's own function 'code'; Right. -/
import Derived.Test.YtoijjlpkoniipaaRsWakes
set_option linter.unusedVariables false
set_option linter.unusedSimpArgs false
namespace Go.Proofs.Ytoijjlpkoniipaa
open Go.RowKit Go.Proofs.YtoijjlpkoniipaaW.PrintWords Go.Proofs.YtoijjlpkoniipaaW.PrintLast Gf Lin
/-- May k and n be? -/
def Rt (a b : Int) : Prop := 1 ≤ a ∧ a ≤ b ∧ b ≤ 255
theorem right9 (a b : Int) (w : World) : Calls Try.prog 40 #[.int .i64 a, .int .i64 b] w fun e w' => e = .returned (.bool (decide (1 ≤ a ∧ a ≤ b ∧ b ≤ 255))) ∧ Below w.heap.size w w' := by
  have h : PRsEncode.scriniumref09_Right.f a b = some (decide (1 ≤ a ∧ a ≤ b ∧ b ≤ 255)) := by
    unfold PRsEncode.scriniumref09_Right.f
    by_cases h1 : a ≥ 1
    · rw [if_pos h1]
      by_cases h2 : b ≥ a
      · rw [if_pos h2]
        by_cases h3 : b ≤ 255
        · rw [decide_eq_true h3, decide_eq_true (show 1 ≤ a ∧ a ≤ b ∧ b ≤ 255 by omega)]
        · rw [decide_eq_false h3, decide_eq_false (show ¬ (1 ≤ a ∧ a ≤ b ∧ b ≤ 255) by omega)]
      · rw [if_neg h2, decide_eq_false (show ¬ (1 ≤ a ∧ a ≤ b ∧ b ≤ 255) by omega)]
    · rw [if_neg h1, decide_eq_false (show ¬ (1 ≤ a ∧ a ≤ b ∧ b ≤ 255) by omega)]
  refine (PRsEncode.scriniumref09_Right.calls a b _ w h).mono ?_
  rintro e w' ⟨rfl, hd⟩
  exact ⟨rfl, hd.below⟩
theorem new_R (gt k n : Nat) (h1 : 1 ≤ k) (h2 : k ≤ n) (h3 : n ≤ 255) (w : World) (ht : TD w gt) (ka nb : Int) (hK : ka = (k : Int)) (hN : nb = (n : Int)) :
    Calls Try.prog 46 #[.pointer (some ⟨gt, 0, none⟩), .int .i64 ka, .int .i64 nb] w fun e w' => ∃ gc A cap, e = .returned (.tuple #[.pointer (some ⟨gc, 0, none⟩), .int .i64 0]) ∧ Cd w' gc gt A k n cap ∧ Below w.heap.size w w' := by
  subst hK; subst hN
  exact new_good gt k n h1 h2 h3 w ht
theorem code_big (ka nb : Int) (h : 1 ≤ ka ∧ ka ≤ nb ∧ nb ≤ 255) (h2 : 8 < ka ∨ 24 < nb) (w : World) :
    Calls Try.prog 39 #[.agg #[.int .i64 ka, .int .i64 nb]] w fun e w' => e = .returned (.tuple #[.pointer none, .int .i64 0, .bool false]) ∧ Below w.heap.size w w' := by
  obtain ⟨w1, hw1⟩ : ∃ w1, w1 = w.alloc (.cells #[.int .i64 ka, .int .i64 nb] 49) := ⟨_, rfl⟩
  have hb1 : Below w.heap.size w w1 := by rw [hw1]; exact Below.alloc1 _ _
  have hr := right9 ka nb w1
  rw [decide_eq_true h] at hr
  have k1 : w1.heap[w.heap.size]? = some (.cells #[.int .i64 ka, .int .i64 nb] 49) := by rw [hw1]; exact heap_alloc_new w _
  have HB := Lib.hid hb1
  have HW := Lib.hid hw1
  have K1 := Lib.hid k1
  clear hb1 hw1 h k1
  obtain ⟨gb, hgb⟩ : ∃ gb, gb = w.heap.size := ⟨_, rfl⟩
  have HG := Lib.hid hgb
  rw [← hgb] at K1
  have HL : Hid (gb < w1.heap.size) := Lib.hid (by rw [HW.out]; simp <;> omega)
  clear hgb
  by_cases h8 : 8 < ka
  · have t1 : decide (ka > 8) = true := decide_eq_true h8
    clear h8 h2
    go_enter Try.func39, Try.ntmps39
    go_wp2_with fail
    rw [← HW.out, ← HG.out]
    refine hr.mono ?_
    clear hr
    rintro e w2 ⟨rfl, hb2⟩
    have k2 := (hb2.block gb HL.out).trans K1.out
    have h0 : w2.cell? ⟨gb, 0, none⟩ = some (.int .i64 ka) := by rw [cell_of_row _ _ _ _ _ _ k2]; rfl
    have h1 : w2.cell? ⟨gb, 1, none⟩ = some (.int .i64 nb) := by rw [cell_of_row _ _ _ _ _ _ k2]; rfl
    have HB2 := Lib.hid (bthen HB.out hb2)
    clear hb2 k2
    go_wp2_with fail
    go_ret3
    exact ⟨rfl, HB2.out⟩
  · have t1 : decide (ka > 8) = false := decide_eq_false h8
    have t2 : decide (nb > 24) = true := decide_eq_true (by omega)
    clear h8 h2
    go_enter Try.func39, Try.ntmps39
    go_wp2_with fail
    rw [← HW.out, ← HG.out]
    refine hr.mono ?_
    clear hr
    rintro e w2 ⟨rfl, hb2⟩
    have k2 := (hb2.block gb HL.out).trans K1.out
    have h0 : w2.cell? ⟨gb, 0, none⟩ = some (.int .i64 ka) := by rw [cell_of_row _ _ _ _ _ _ k2]; rfl
    have h1 : w2.cell? ⟨gb, 1, none⟩ = some (.int .i64 nb) := by rw [cell_of_row _ _ _ _ _ _ k2]; rfl
    have HB2 := Lib.hid (bthen HB.out hb2)
    clear hb2 k2
    go_wp2_with fail
    go_ret3
    exact ⟨rfl, HB2.out⟩
set_option maxHeartbeats 1000000 in
theorem code_ok (k n : Nat) (hk1 : 1 ≤ k) (hkn : k ≤ n) (h8 : k ≤ 8) (h24 : n ≤ 24) (ka nb : Int) (hK : ka = (k : Int)) (hN : nb = (n : Int)) (w : World) :
    Calls Try.prog 39 #[.agg #[.int .i64 ka, .int .i64 nb]] w fun e w' => ∃ gc gt A cap, e = .returned (.tuple #[.pointer (some ⟨gc, 0, none⟩), .int .i64 0, .bool true]) ∧ Cd w' gc gt A k n cap ∧ Below w.heap.size w w' := by
  obtain ⟨w1, hw1⟩ : ∃ w1, w1 = w.alloc (.cells #[.int .i64 ka, .int .i64 nb] 49) := ⟨_, rfl⟩
  have hb1 : Below w.heap.size w w1 := by rw [hw1]; exact Below.alloc1 _ _
  have hr := right9 ka nb w1
  rw [decide_eq_true (show 1 ≤ ka ∧ ka ≤ nb ∧ nb ≤ 255 by omega)] at hr
  have k1 : w1.heap[w.heap.size]? = some (.cells #[.int .i64 ka, .int .i64 nb] 49) := by rw [hw1]; exact heap_alloc_new w _
  have HB := Lib.hid hb1
  have HW := Lib.hid hw1
  have K1 := Lib.hid k1
  clear hb1 hw1 k1
  obtain ⟨gb, hgb⟩ : ∃ gb, gb = w.heap.size := ⟨_, rfl⟩
  have HG := Lib.hid hgb
  rw [← hgb] at K1
  have HL : Hid (gb < w1.heap.size) := Lib.hid (by have := congrArg (fun x : World => x.heap.size) HW.out; simp at this; omega)
  clear hgb
  have hn2 : n ≤ 255 := by omega
  have t1 : decide (ka > 8) = false := decide_eq_false (by omega)
  have t2 : decide (nb > 24) = false := decide_eq_false (by omega)
  have HKN := Lib.hid (And.intro hK hN)
  clear hK hN
  go_enter Try.func39, Try.ntmps39
  go_wp2_with fail
  rw [← HW.out, ← HG.out]
  refine hr.mono ?_
  clear hr
  rintro e w3 ⟨rfl, hb2⟩
  have k2 := (hb2.block gb HL.out).trans K1.out
  have h0 : w3.cell? ⟨gb, 0, none⟩ = some (.int .i64 ka) := by rw [cell_of_row _ _ _ _ _ _ k2]; rfl
  have h1 : w3.cell? ⟨gb, 1, none⟩ = some (.int .i64 nb) := by rw [cell_of_row _ _ _ _ _ _ k2]; rfl
  have HB2 := Lib.hid (bthen HB.out hb2)
  have bd : Below w3.heap.size w3 w3.drew := ⟨rfl, rfl, rfl, Nat.le_refl _, fun _ _ => rfl⟩
  clear hb2 k2
  go_wp2
  refine start_ (n := 11) (S := fun w' => w'.cell? ⟨gb, 0, none⟩ = some (.int .i64 ka) ∧ w'.cell? ⟨gb, 1, none⟩ = some (.int .i64 nb)) (ds := []) #[false, false, false, false, false, false, false, false, false, false, false] (by kernel_rfl) rfl rfl ⟨h0, h1⟩ (fun hHeld => ?_)
  refine pure_ (i := 1) (N := some 24) (v := ?_) (a' := ?_) #[false, true, false, false, false, false, false, false, false, false, false] rfl rfl (by kernel_rfl) (fun _ _ _ h => h) (Or.inl ⟨by rfl, ?_⟩) ?_ ?_
  rotate_left
  · intro w'
    go_simp
    with_reducible rfl
  rotate_left
  · simp only [Act.put, List.setIfInBounds_toArray, List.set_cons_zero, List.set_cons_succ, i64_w, i32_w]
    rfl
  refine pure_ (i := 3) (N := some 26) (v := ?_) (a' := ?_) #[false, true, false, true, false, false, false, false, false, false, false] rfl rfl (by kernel_rfl) (fun _ _ _ h => h) (Or.inl ⟨by rfl, ?_⟩) ?_ ?_
  rotate_left
  · intro w'
    go_simp
    with_reducible rfl
  rotate_left
  · simp only [Act.put, List.setIfInBounds_toArray, List.set_cons_zero, List.set_cons_succ, i64_w, i32_w]
    rfl
  refine take_ (i := 2) (N := some 25) (v := ?_) (a' := ?_) #[false, true, true, true, false, false, false, false, false, false, false] rfl rfl (by kernel_rfl) (fun _ _ _ h => h) (Or.inl ⟨by rfl, ?_⟩) hHeld ?_ ?_
  rotate_left
  · rintro w' ⟨s0, s1⟩
    go_simp
    with_reducible rfl
  rotate_left
  · simp only [Act.put, List.setIfInBounds_toArray, List.set_cons_zero, List.set_cons_succ, i64_w, i32_w]
    rfl
  refine take_ (i := 4) (N := some 27) (v := ?_) (a' := ?_) #[false, true, true, true, true, false, false, false, false, false, false] rfl rfl (by kernel_rfl) (fun _ _ _ h => h) (Or.inl ⟨by rfl, ?_⟩) hHeld ?_ ?_
  rotate_left
  · rintro w' ⟨s0, s1⟩
    go_simp
    with_reducible rfl
  rotate_left
  · simp only [Act.put, List.setIfInBounds_toArray, List.set_cons_zero, List.set_cons_succ, i64_w, i32_w]
    rfl
  refine one_ (i := 0) (N := some 23) #[true, true, true, true, true, false, false, false, false, false, false] rfl rfl (by kernel_rfl) (by decide) (fun K hK => ?_)
  refine goes_ Try.func23 (by kernel_rfl) rfl #[] (by rfl) rfl rfl (by first | rfl | (simp only [List.map_toArray, List.map_cons, List.map_nil]; done)) ?_
  with_reducible refine (make_R w3.drew).mono ?_
  rintro e w4 ⟨gt, rfl, ht, hb4⟩
  refine ⟨_, rfl, ?_⟩
  have f1 := pw_cell_below hb4 h0
  have f2 := pw_cell_below hb4 h1
  have T := Lib.hid ht
  have HB4 := Lib.hid (bthen bd hb4)
  clear ht hb4
  refine hK.out _ _ ⟨f1, f2⟩ (fun hHeld => ?_)
  clear hK K
  refine norm_ (a' := ?_) ?_ ?_
  rotate_left
  · show Act.put _ (some 23) _ = _
    simp only [Act.put, List.setIfInBounds_toArray, List.set_cons_zero, List.set_cons_succ, i64_w, i32_w]
    rfl
  refine one_ (i := 5) (N := some 28) #[true, true, true, true, true, true, false, false, false, false, false] rfl rfl (by kernel_rfl) (by decide) (fun K hK => ?_)
  refine goes_ Try.func46 (by kernel_rfl) rfl #[.pointer (some ⟨gt, 0, none⟩), .int .i64 ka, .int .i64 nb] (by rfl) rfl rfl (by simp only [List.map_toArray, List.map_cons, List.map_nil]; rfl) ?_
  with_reducible refine (new_R gt k n hk1 hkn hn2 w4 T.out ka nb HKN.out.1 HKN.out.2).mono ?_
  rintro e w5 ⟨gc, A, cap, rfl, hc, hb5⟩
  refine ⟨_, rfl, ?_⟩
  have g1 := pw_cell_below hb5 f1
  have g2 := pw_cell_below hb5 f2
  have HC := Lib.hid hc
  have HB5 := Lib.hid (bthen HB4.out hb5)
  clear hc hb5
  refine hK.out _ _ ⟨g1, g2⟩ (fun hHeld => ?_)
  clear hK K
  refine norm_ (a' := ?_) ?_ ?_
  rotate_left
  · show Act.put _ (some 28) _ = _
    simp only [Act.put, List.setIfInBounds_toArray, List.set_cons_zero, List.set_cons_succ, i64_w, i32_w]
    rfl
  refine pure_ (i := 6) (N := some 22) (v := ?_) (a' := ?_) #[true, true, true, true, true, true, true, false, false, false, false] rfl rfl (by kernel_rfl) (fun _ _ _ h => h) (Or.inl ⟨by rfl, ?_⟩) ?_ ?_
  rotate_left
  · intro w'
    go_simp
    with_reducible rfl
  rotate_left
  · simp only [Act.put, List.setIfInBounds_toArray, List.set_cons_zero, List.set_cons_succ, i64_w, i32_w]
    rfl
  refine pure_ (i := 7) (N := some 29) (v := ?_) (a' := ?_) #[true, true, true, true, true, true, true, true, false, false, false] rfl rfl (by kernel_rfl) (fun _ _ _ h => h) (Or.inl ⟨by rfl, ?_⟩) ?_ ?_
  rotate_left
  · intro w'
    go_simp
    with_reducible rfl
  rotate_left
  · simp only [Act.put, List.setIfInBounds_toArray, List.set_cons_zero, List.set_cons_succ, i64_w, i32_w]
    rfl
  refine pure_ (i := 8) (N := some 30) (v := ?_) (a' := ?_) #[true, true, true, true, true, true, true, true, true, false, false] rfl rfl (by kernel_rfl) (fun _ _ _ h => h) (Or.inl ⟨by rfl, ?_⟩) ?_ ?_
  rotate_left
  · intro w'
    go_simp
    with_reducible rfl
  rotate_left
  · simp only [Act.put, List.setIfInBounds_toArray, List.set_cons_zero, List.set_cons_succ, i64_w, i32_w]
    rfl
  refine pure_ (i := 9) (N := some 5) (v := ?_) (a' := ?_) #[true, true, true, true, true, true, true, true, true, true, false] rfl rfl (by kernel_rfl) (fun _ _ _ h => h) (Or.inl ⟨by rfl, ?_⟩) ?_ ?_
  rotate_left
  · intro w'
    go_simp
    with_reducible rfl
  rotate_left
  · simp only [Act.put, List.setIfInBounds_toArray, List.set_cons_zero, List.set_cons_succ, i64_w, i32_w]
    rfl
  refine pure_ (i := 10) (N := some 6) (v := ?_) (a' := ?_) #[true, true, true, true, true, true, true, true, true, true, true] rfl rfl (by kernel_rfl) (fun _ _ _ h => h) (Or.inl ⟨by rfl, ?_⟩) ?_ ?_
  rotate_left
  · intro w'
    go_simp
    with_reducible rfl
  rotate_left
  · simp only [Act.put, List.setIfInBounds_toArray, List.set_cons_zero, List.set_cons_succ, i64_w, i32_w]
    rfl
  refine done_ (by kernel_rfl) ?_
  have HBF := Lib.hid (bthen HB2.out HB5.out)
  go_wp2_with fail
  go_ret3
  exact ⟨gc, gt, A, cap, rfl, HC.out, HBF.out⟩

set_option maxHeartbeats 1000000 in
theorem code_bad (ka nb : Int) (hbad : ¬ (1 ≤ ka ∧ ka ≤ nb ∧ nb ≤ 255)) (w : World) :
    Calls Try.prog 39 #[.agg #[.int .i64 ka, .int .i64 nb]] w fun e w' => e = .returned (.tuple #[.pointer none, .int .i64 14, .bool true]) ∧ Below w.heap.size w w' := by
  obtain ⟨w1, hw1⟩ : ∃ w1, w1 = w.alloc (.cells #[.int .i64 ka, .int .i64 nb] 49) := ⟨_, rfl⟩
  have hb1 : Below w.heap.size w w1 := by rw [hw1]; exact Below.alloc1 _ _
  have hr := right9 ka nb w1
  rw [decide_eq_false hbad] at hr
  have k1 : w1.heap[w.heap.size]? = some (.cells #[.int .i64 ka, .int .i64 nb] 49) := by rw [hw1]; exact heap_alloc_new w _
  have HB := Lib.hid hb1
  have HW := Lib.hid hw1
  have K1 := Lib.hid k1
  clear hb1 hw1 k1
  obtain ⟨gb, hgb⟩ : ∃ gb, gb = w.heap.size := ⟨_, rfl⟩
  have HG := Lib.hid hgb
  rw [← hgb] at K1
  have HL : Hid (gb < w1.heap.size) := Lib.hid (by have := congrArg (fun x : World => x.heap.size) HW.out; simp at this; omega)
  clear hgb
  have HBAD := Lib.hid hbad
  clear hbad
  go_enter Try.func39, Try.ntmps39
  go_wp2_with fail
  rw [← HW.out, ← HG.out]
  refine hr.mono ?_
  clear hr
  rintro e w3 ⟨rfl, hb2⟩
  have k2 := (hb2.block gb HL.out).trans K1.out
  have h0 : w3.cell? ⟨gb, 0, none⟩ = some (.int .i64 ka) := by rw [cell_of_row _ _ _ _ _ _ k2]; rfl
  have h1 : w3.cell? ⟨gb, 1, none⟩ = some (.int .i64 nb) := by rw [cell_of_row _ _ _ _ _ _ k2]; rfl
  have HB2 := Lib.hid (bthen HB.out hb2)
  have bd : Below w3.heap.size w3 w3.drew := ⟨rfl, rfl, rfl, Nat.le_refl _, fun _ _ => rfl⟩
  clear hb2 k2
  go_wp2
  refine start_ (n := 11) (S := fun w' => w'.cell? ⟨gb, 0, none⟩ = some (.int .i64 ka) ∧ w'.cell? ⟨gb, 1, none⟩ = some (.int .i64 nb)) (ds := []) #[false, false, false, false, false, false, false, false, false, false, false] (by kernel_rfl) rfl rfl ⟨h0, h1⟩ (fun hHeld => ?_)
  refine pure_ (i := 1) (N := some 24) (v := ?_) (a' := ?_) #[false, true, false, false, false, false, false, false, false, false, false] rfl rfl (by kernel_rfl) (fun _ _ _ h => h) (Or.inl ⟨by rfl, ?_⟩) ?_ ?_
  rotate_left
  · intro w'
    go_simp
    with_reducible rfl
  rotate_left
  · simp only [Act.put, List.setIfInBounds_toArray, List.set_cons_zero, List.set_cons_succ, i64_w, i32_w]
    rfl
  refine pure_ (i := 3) (N := some 26) (v := ?_) (a' := ?_) #[false, true, false, true, false, false, false, false, false, false, false] rfl rfl (by kernel_rfl) (fun _ _ _ h => h) (Or.inl ⟨by rfl, ?_⟩) ?_ ?_
  rotate_left
  · intro w'
    go_simp
    with_reducible rfl
  rotate_left
  · simp only [Act.put, List.setIfInBounds_toArray, List.set_cons_zero, List.set_cons_succ, i64_w, i32_w]
    rfl
  refine take_ (i := 2) (N := some 25) (v := ?_) (a' := ?_) #[false, true, true, true, false, false, false, false, false, false, false] rfl rfl (by kernel_rfl) (fun _ _ _ h => h) (Or.inl ⟨by rfl, ?_⟩) hHeld ?_ ?_
  rotate_left
  · rintro w' ⟨s0, s1⟩
    go_simp
    with_reducible rfl
  rotate_left
  · simp only [Act.put, List.setIfInBounds_toArray, List.set_cons_zero, List.set_cons_succ, i64_w, i32_w]
    rfl
  refine take_ (i := 4) (N := some 27) (v := ?_) (a' := ?_) #[false, true, true, true, true, false, false, false, false, false, false] rfl rfl (by kernel_rfl) (fun _ _ _ h => h) (Or.inl ⟨by rfl, ?_⟩) hHeld ?_ ?_
  rotate_left
  · rintro w' ⟨s0, s1⟩
    go_simp
    with_reducible rfl
  rotate_left
  · simp only [Act.put, List.setIfInBounds_toArray, List.set_cons_zero, List.set_cons_succ, i64_w, i32_w]
    rfl
  refine one_ (i := 0) (N := some 23) #[true, true, true, true, true, false, false, false, false, false, false] rfl rfl (by kernel_rfl) (by decide) (fun K hK => ?_)
  refine goes_ Try.func23 (by kernel_rfl) rfl #[] (by rfl) rfl rfl (by first | rfl | (simp only [List.map_toArray, List.map_cons, List.map_nil]; done)) ?_
  with_reducible refine (make_R w3.drew).mono ?_
  rintro e w4 ⟨gt, rfl, ht, hb4⟩
  refine ⟨_, rfl, ?_⟩
  have f1 := pw_cell_below hb4 h0
  have f2 := pw_cell_below hb4 h1
  have T := Lib.hid ht
  have HB4 := Lib.hid (bthen bd hb4)
  clear ht hb4
  refine hK.out _ _ ⟨f1, f2⟩ (fun hHeld => ?_)
  clear hK K
  refine norm_ (a' := ?_) ?_ ?_
  rotate_left
  · show Act.put _ (some 23) _ = _
    simp only [Act.put, List.setIfInBounds_toArray, List.set_cons_zero, List.set_cons_succ, i64_w, i32_w]
    rfl
  refine one_ (i := 5) (N := some 28) #[true, true, true, true, true, true, false, false, false, false, false] rfl rfl (by kernel_rfl) (by decide) (fun K hK => ?_)
  refine goes_ Try.func46 (by kernel_rfl) rfl #[.pointer (some ⟨gt, 0, none⟩), .int .i64 ka, .int .i64 nb] (by rfl) rfl rfl (by simp only [List.map_toArray, List.map_cons, List.map_nil]; rfl) ?_
  with_reducible refine (new_bad gt ka nb HBAD.out w4).mono ?_
  rintro e w5 ⟨rfl, rfl⟩
  refine ⟨_, rfl, ?_⟩
  have g1 := f1
  have g2 := f2
  have HB5 := HB4
  refine hK.out _ _ ⟨g1, g2⟩ (fun hHeld => ?_)
  clear hK K
  refine norm_ (a' := ?_) ?_ ?_
  rotate_left
  · show Act.put _ (some 28) _ = _
    simp only [Act.put, List.setIfInBounds_toArray, List.set_cons_zero, List.set_cons_succ, i64_w, i32_w]
    rfl
  refine pure_ (i := 6) (N := some 22) (v := ?_) (a' := ?_) #[true, true, true, true, true, true, true, false, false, false, false] rfl rfl (by kernel_rfl) (fun _ _ _ h => h) (Or.inl ⟨by rfl, ?_⟩) ?_ ?_
  rotate_left
  · intro w'
    go_simp
    with_reducible rfl
  rotate_left
  · simp only [Act.put, List.setIfInBounds_toArray, List.set_cons_zero, List.set_cons_succ, i64_w, i32_w]
    rfl
  refine pure_ (i := 7) (N := some 29) (v := ?_) (a' := ?_) #[true, true, true, true, true, true, true, true, false, false, false] rfl rfl (by kernel_rfl) (fun _ _ _ h => h) (Or.inl ⟨by rfl, ?_⟩) ?_ ?_
  rotate_left
  · intro w'
    go_simp
    with_reducible rfl
  rotate_left
  · simp only [Act.put, List.setIfInBounds_toArray, List.set_cons_zero, List.set_cons_succ, i64_w, i32_w]
    rfl
  refine pure_ (i := 8) (N := some 30) (v := ?_) (a' := ?_) #[true, true, true, true, true, true, true, true, true, false, false] rfl rfl (by kernel_rfl) (fun _ _ _ h => h) (Or.inl ⟨by rfl, ?_⟩) ?_ ?_
  rotate_left
  · intro w'
    go_simp
    with_reducible rfl
  rotate_left
  · simp only [Act.put, List.setIfInBounds_toArray, List.set_cons_zero, List.set_cons_succ, i64_w, i32_w]
    rfl
  refine pure_ (i := 9) (N := some 5) (v := ?_) (a' := ?_) #[true, true, true, true, true, true, true, true, true, true, false] rfl rfl (by kernel_rfl) (fun _ _ _ h => h) (Or.inl ⟨by rfl, ?_⟩) ?_ ?_
  rotate_left
  · intro w'
    go_simp
    with_reducible rfl
  rotate_left
  · simp only [Act.put, List.setIfInBounds_toArray, List.set_cons_zero, List.set_cons_succ, i64_w, i32_w]
    rfl
  refine pure_ (i := 10) (N := some 6) (v := ?_) (a' := ?_) #[true, true, true, true, true, true, true, true, true, true, true] rfl rfl (by kernel_rfl) (fun _ _ _ h => h) (Or.inl ⟨by rfl, ?_⟩) ?_ ?_
  rotate_left
  · intro w'
    go_simp
    with_reducible rfl
  rotate_left
  · simp only [Act.put, List.setIfInBounds_toArray, List.set_cons_zero, List.set_cons_succ, i64_w, i32_w]
    rfl
  refine done_ (by kernel_rfl) ?_
  have HBF := Lib.hid (bthen HB2.out HB5.out)
  go_wp2_with fail
  go_ret3
  exact ⟨rfl, HBF.out⟩

end Go.Proofs.Ytoijjlpkoniipaa
