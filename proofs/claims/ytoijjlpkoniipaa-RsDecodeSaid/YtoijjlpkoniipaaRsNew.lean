/- Codes: New, there, alike, sum. -/
import Derived.Test.YtoijjlpkoniipaaRsMem
set_option linter.unusedVariables false
set_option linter.unusedSimpArgs false
namespace Go.Proofs.Ytoijjlpkoniipaa
open Go.RowKit Go.Proofs.YtoijjlpkoniipaaW.PrintWords Go.Proofs.YtoijjlpkoniipaaW.PrintLast Gf Lin
theorem new_nil (k n : Int) (w : World) : Calls Try.prog 46 #[.pointer none, .int .i64 k, .int .i64 n] w fun e w' => e = .returned (.tuple #[.pointer none, .int .i64 15]) ∧ w' = w := by
  go_enter Try.func46, Try.ntmps46
  go_wp2_with fail
  go_ret2
  exact ⟨rfl, rfl⟩
theorem new_bad (gt : Nat) (k n : Int) (h : ¬ (1 ≤ k ∧ k ≤ n ∧ n ≤ 255)) (w : World) : Calls Try.prog 46 #[.pointer (some ⟨gt, 0, none⟩), .int .i64 k, .int .i64 n] w fun e w' => e = .returned (.tuple #[.pointer none, .int .i64 14]) ∧ w' = w := by
  by_cases h1 : k < 1
  · have t1 : decide (k < 1) = true := decide_eq_true h1
    clear h h1
    go_enter Try.func46, Try.ntmps46
    go_wp2_with fail
    go_ret2
    exact ⟨rfl, rfl⟩
  · have t1 : decide (k < 1) = false := decide_eq_false h1
    by_cases h2 : n < k
    · have t2 : decide (n < k) = true := decide_eq_true h2
      clear h h1 h2
      go_enter Try.func46, Try.ntmps46
      go_wp2_with fail
      go_ret2
      exact ⟨rfl, rfl⟩
    · have t2 : decide (n < k) = false := decide_eq_false h2
      have t3 : decide (n > 255) = true := decide_eq_true (by omega)
      clear h h1 h2
      go_enter Try.func46, Try.ntmps46
      go_wp2_with fail
      go_ret2
      exact ⟨rfl, rfl⟩
set_option maxHeartbeats 1000000 in
set_option maxRecDepth 100000 in
theorem new_good (gt k n : Nat) (h1 : 1 ≤ k) (h2 : k ≤ n) (h3 : n ≤ 255) (w : World) (ht : TD w gt) :
    Calls Try.prog 46 #[.pointer (some ⟨gt, 0, none⟩), .int .i64 (k : Int), .int .i64 (n : Int)] w fun e w' => ∃ gc A cap, e = .returned (.tuple #[.pointer (some ⟨gc, 0, none⟩), .int .i64 0]) ∧ Cd w' gc gt A k n cap ∧ Below w.heap.size w w' := by
  have t1 : decide ((k : Int) < 1) = false := decide_eq_false (by omega)
  have t2 : decide ((n : Int) < (k : Int)) = false := decide_eq_false (by omega)
  have t3 : decide ((n : Int) > 255) = false := decide_eq_false (by omega)
  have hun := unit_calls k h1 (by omega) w
  have T := Lib.hid ht
  have HG := Lib.hid ht.lt
  clear ht
  go_enter Try.func46, Try.ntmps46
  go_wp2_with fail
  refine hun.mono ?_
  clear hun
  rintro e w1 ⟨rfl, hm, hb, hs⟩
  have HB1 := Lib.hid hb
  replace T := Lib.hid (T.out.below hb)
  obtain ⟨gm, hgm⟩ : ∃ gm, gm = w.heap.size + 1 := ⟨_, rfl⟩
  obtain ⟨ga, hga⟩ : ∃ ga, ga = w.heap.size := ⟨_, rfl⟩
  obtain ⟨w2, hw2⟩ : ∃ w2, w2 = w1.alloc (.cells #[.pointer (some ⟨gt, 0, none⟩), .int .i64 (k : Int), .slice (some ⟨gm, 0, none⟩) k k] 95) := ⟨_, rfl⟩
  have hb2 : Below w1.heap.size w1 w2 := by rw [hw2]; exact (Below.refl _ _).alloc (Nat.le_refl _) _
  have k2 : w2.heap[w1.heap.size]? = some (.cells #[.pointer (some ⟨gt, 0, none⟩), .int .i64 (k : Int), .slice (some ⟨gm, 0, none⟩) k k] 95) := by rw [hw2]; exact heap_alloc_new w1 _
  have s2 : w2.heap.size = w1.heap.size + 1 := by rw [hw2]; simp
  have hm2 := hm.below (by omega) (by omega) hb2
  rw [← hgm, ← hga] at hm2
  rw [← hgm]
  obtain ⟨gc, hgc⟩ : ∃ gc, gc = w1.heap.size := ⟨_, rfl⟩
  rw [← hgc] at k2
  replace T := Lib.hid (T.out.below hb2)
  have HB2 := Lib.hid (bthen HB1.out hb2)
  have K2 := Lib.hid k2
  have HO : Hid (ga < gc ∧ gm < gc ∧ gc < w2.heap.size ∧ w.heap.size ≤ gc) := Lib.hid (by have := HB1.out.size; omega)
  have HM := Lib.hid hm2
  have HW2 := Lib.hid hw2
  have HGC := Lib.hid hgc
  clear hm hb hs hgm hga hb2 k2 s2 hm2 hw2 hgc HB1
  by_cases hkn : k < n
  · have t4 : decide (k < n) = true := decide_eq_true hkn
    go_wp2_with fail
    rw [← HW2.out, ← HGC.out]
    have hca := cauchy_good gt (n - k) k (by omega) h1 (by omega) w2 T.out.tab T.out.lt
    have e1 : ((n - k : Nat) : Int) = (n : Int) - (k : Int) := by omega
    rw [e1] at hca
    clear HW2 HGC
    refine hca.mono ?_
    clear hca
    rintro e w3 ⟨rfl, hn, hb, hs⟩
    have hm3 := HM.out.below (by have := HO.out; omega) (by have := HO.out; omega) hb
    replace T := Lib.hid (T.out.below hb)
    have HB3 := Lib.hid (bthen HB2.out hb)
    have K3 := Lib.hid ((hb.block gc HO.out.2.2.1).trans K2.out)
    obtain ⟨gm2, hgm2⟩ : ∃ gm2, gm2 = w2.heap.size + 1 := ⟨_, rfl⟩
    obtain ⟨ga2, hga2⟩ : ∃ ga2, ga2 = w2.heap.size := ⟨_, rfl⟩
    rw [← hgm2, ← hga2] at hn
    rw [← hgm2]
    have HO2 : Hid (gc < ga2 ∧ gc < gm2 ∧ ga2 < w3.heap.size ∧ gm2 < w3.heap.size) := Lib.hid (by have := HO.out; omega)
    clear hb hs hgm2 hga2 HB2 K2 HM
    obtain ⟨A', cap', w4, hr, hown, hb4⟩ := append_vals_grow (cap := k) (cb := n - k) (matV_length ga k k) hm3.cellsV (matV_length ga2 (n - k) k) hn.cellsV (by omega) (by omega) 36
    have h2c : w3.cell? ⟨gc, 2, none⟩ = some (.slice (some ⟨gm, 0, none⟩) k k) := by rw [cell_of_row _ _ _ _ _ _ K3.out]; rfl
    have K4 := Lib.hid ((hb4.block gc (by have := HO2.out; omega)).trans K3.out)
    have h2d : w4.cell? ⟨gc, 2, none⟩ = some (.slice (some ⟨gm, 0, none⟩) k k) := by rw [cell_of_row _ _ _ _ _ _ K4.out]; rfl
    have f2d : w4.frozen? ⟨gc, 2, none⟩ = false := frozen_of_row _ _ _ _ _ K4.out
    have HM4 := Lib.hid (hm3.below (by have := HO.out; have := HO2.out; omega) (by have := HO.out; have := HO2.out; omega) hb4)
    have HN4 := Lib.hid (hn.below HO2.out.2.2.2 HO2.out.2.2.1 hb4)
    have HB4 := Lib.hid (bthen HB3.out hb4)
    replace T := Lib.hid (T.out.below hb4)
    have hnk : k + (n - k) = n := by omega
    rw [hnk] at hr hown
    have HOWN := Lib.hid (ownsRow_setCell_below hown (a := ⟨gc, 2, none⟩) (by show gc < w3.heap.size; have := HO2.out; omega) (.slice A' n cap'))
    obtain ⟨q, hq⟩ : ∃ q, q = n - k := ⟨_, rfl⟩
    have HQ := Lib.hid hq
    rw [← hq] at hr ⊢
    clear hown hb4 hnk hq e1 HB3 hm3 hn
    go_wp2_with (at_builtin; refine Lib.wpList_append_run _ rfl _ _ _ _ rfl _ _ rfl rfl _ _ hr ?_)
    go_ret2
    have hblk : ∀ i, i ≠ gc → (w4.setCell ⟨gc, 2, none⟩ (.slice A' n cap')).heap[i]? = w4.heap[i]? := fun i hi => Below.heap_setCell _ _ _ _ hi
    have o1 := HO.out
    have o2 := HO2.out
    refine ⟨gc, A', cap', rfl, ⟨?_, ⟨tab_same T.out.tab (hblk gt (fun e => ?_)), by simpa using T.out.lt⟩, ?_, h1, h2, h3⟩, Below.setCell HB4.out HO.out.2.2.2 _⟩
    · rw [heap_setCell_same _ _ _ _ _ _ K4.out]; rfl
    · have := HG.out; omega
    · rw [code_split h2, ← HQ.out]
      refine RD.of_own HOWN.out (RV.append ?_ ?_) (by omega)
      · exact (HM4.out.same (hblk _ (by omega)) (hblk _ (by omega))).rv (by omega)
      · rw [HQ.out]; exact (HN4.out.same (hblk _ (by omega)) (hblk _ (by omega))).rv (by omega)
  · obtain rfl : k = n := by omega
    have t4 : decide (k < k) = false := decide_eq_false hkn
    clear hkn
    go_wp2_with fail
    go_ret2
    rw [← HW2.out, ← HGC.out]
    refine ⟨gc, _, k, rfl, ⟨K2.out, T.out, ?_, h1, h2, h3⟩, HB2.out⟩
    rw [code_split (Nat.le_refl k), Nat.sub_self]
    have e : rowsOf k k Lin.unit ++ rowsOf 0 k (cau k) = rowsOf k k Lin.unit := by simp [rowsOf]
    rw [e]
    exact ⟨Nat.le_refl _, HM.out.reads (by omega) (by omega)⟩
end Go.Proofs.Ytoijjlpkoniipaa
