/- Joined out of texts of this claim: MatSwap, MatAdd, MatAddW, MatClear, MatInv, MatWakes. Each says what it proves, and its conditions. -/
import Derived.Test.YtoijjlpkoniipaaMatsA
set_option linter.unusedVariables false
set_option linter.unusedSimpArgs false
section
/- Matrices: swap. -/
namespace Go.Proofs.Ytoijjlpkoniipaa
open Go.RowKit Go.Proofs.YtoijjlpkoniipaaW.PrintWords Go.Proofs.YtoijjlpkoniipaaW.PrintLast Gf Lin
set_option linter.unusedSimpArgs false
def swp (i k : Nat) (p : Nat → Nat) : Nat → Nat := fun a => if a = i then p k else if a = k then p i else p a
theorem Perm.swp {n i k : Nat} {p : Nat → Nat} (h : Perm n p) (hi : i < n) (hk : k < n) : Perm n (swp i k p) := by
  refine ⟨fun a ha => ?_, fun a ha b hb e => ?_⟩
  · unfold Ytoijjlpkoniipaa.swp
    split
    · exact h.1 k hk
    · split
      · exact h.1 i hi
      · exact h.1 a ha
  · unfold Ytoijjlpkoniipaa.swp at e
    by_cases a1 : a = i
    · rw [if_pos a1] at e
      by_cases b1 : b = i
      · omega
      · rw [if_neg b1] at e
        by_cases b2 : b = k
        · rw [if_pos b2] at e; have := h.2 k hk i hi e; omega
        · rw [if_neg b2] at e; have := h.2 k hk b hb e; omega
    · rw [if_neg a1] at e
      by_cases a2 : a = k
      · rw [if_pos a2] at e
        by_cases b1 : b = i
        · rw [if_pos b1] at e; have := h.2 i hi k hk e; omega
        · rw [if_neg b1] at e
          by_cases b2 : b = k
          · omega
          · rw [if_neg b2] at e; have := h.2 i hi b hb e; omega
      · rw [if_neg a2] at e
        by_cases b1 : b = i
        · rw [if_pos b1] at e; have := h.2 a ha k hk e; omega
        · rw [if_neg b1] at e
          by_cases b2 : b = k
          · rw [if_pos b2] at e; have := h.2 a ha i hi e; omega
          · rw [if_neg b2] at e; exact h.2 a ha b hb e
theorem Mat.swap {w : World} {gm ga n c : Nat} {p : Nat → Nat} {M : Lin.M} (h : Mat w gm ga n c p M) (hne : gm ≠ ga) {i k : Nat} (hi : i < n) (hk : k < n) :
    Mat ((w.setCell ⟨gm, i, none⟩ (.slice (some ⟨ga, p k * c, none⟩) c c)).setCell ⟨gm, k, none⟩ (.slice (some ⟨ga, p i * c, none⟩) c c)) gm ga n c (swp i k p) (swapRow i k M) ∧
    (w.setCell ⟨gm, i, none⟩ (.slice (some ⟨ga, p k * c, none⟩) c c)).cell? ⟨gm, k, none⟩ = some (.slice (some ⟨ga, p k * c, none⟩) c c) := by
  have hmid : (w.setCell ⟨gm, i, none⟩ (.slice (some ⟨ga, p k * c, none⟩) c c)).cell? ⟨gm, k, none⟩ = some (.slice (some ⟨ga, p k * c, none⟩) c c) := by
    rw [set_at (h.rows i hi)]
    by_cases hik : k = i
    · rw [if_pos hik]
    · rw [if_neg hik]; exact h.rows k hk
  refine ⟨⟨fun a ha => ?_, fun a ha b hb => ?_, fun a => by simpa using h.fm a, fun a => by simpa using h.fa a⟩, hmid⟩
  · rw [set_at hmid, set_at (h.rows i hi)]
    unfold swp
    by_cases a2 : a = k
    · rw [if_pos a2]
      by_cases a1 : a = i
      · rw [if_pos a1, ← a1, ← a2]
      · rw [if_neg a1, if_pos a2]
    · rw [if_neg a2]
      by_cases a1 : a = i
      · rw [if_pos a1, if_pos a1]
      · rw [if_neg a1, if_neg a1, if_neg a2]; exact h.rows a ha
  · rw [World.cell?_setCell_other _ _ _ _ (fun e => hne (by injection e)), World.cell?_setCell_other _ _ _ _ (fun e => hne (by injection e))]
    unfold swp swapRow
    by_cases a1 : a = i
    · rw [if_pos a1, if_pos a1]; exact h.cells k hk b hb
    · rw [if_neg a1, if_neg a1]
      by_cases a2 : a = k
      · rw [if_pos a2, if_pos a2]; exact h.cells i hi b hb
      · rw [if_neg a2, if_neg a2]; exact h.cells a ha b hb
theorem Wk.swapM {w : World} {g gt gm ga gs gb n c d : Nat} {p q : Nat → Nat} {M S : Lin.M} (h : Wk w g gt gm ga gs gb n c d p q M S) {i k : Nat} (hi : i < n) (hk : k < n) :
    Wk ((w.setCell ⟨gm, i, none⟩ (.slice (some ⟨ga, p k * c, none⟩) c c)).setCell ⟨gm, k, none⟩ (.slice (some ⟨ga, p i * c, none⟩) c c)) g gt gm ga gs gb n c d (swp i k p) q (swapRow i k M) S := by
  have k1 : ∀ x, x ≠ gm → ((w.setCell ⟨gm, i, none⟩ (.slice (some ⟨ga, p k * c, none⟩) c c)).setCell ⟨gm, k, none⟩ (.slice (some ⟨ga, p i * c, none⟩) c c)).heap[x]? = w.heap[x]? := fun x hx => (Below.heap_setCell _ _ _ x hx).trans (Below.heap_setCell _ _ _ x hx)
  obtain ⟨e1, e2, e3, e4, e5, e6⟩ := h.ne1
  obtain ⟨f1, f2, f3, f4⟩ := h.ne2
  obtain ⟨g1, g2, g3, g4⟩ := h.ne3
  exact ⟨(k1 g f1).trans h.blk, tab_same h.tab (k1 gt g1), (h.m.swap e1 hi hk).1, h.s.same (k1 gs (Ne.symm e3)) (k1 gb (Ne.symm e4)), h.pp.swp hi hk, h.pq, h.ne1, h.ne2, h.ne3, by simpa using h.lt, h.n1, h.c1, h.d1⟩
theorem Wk.swapS {w : World} {g gt gm ga gs gb n c d : Nat} {p q : Nat → Nat} {M S : Lin.M} (h : Wk w g gt gm ga gs gb n c d p q M S) {i k : Nat} (hi : i < n) (hk : k < n) :
    Wk ((w.setCell ⟨gs, i, none⟩ (.slice (some ⟨gb, q k * d, none⟩) d d)).setCell ⟨gs, k, none⟩ (.slice (some ⟨gb, q i * d, none⟩) d d)) g gt gm ga gs gb n c d p (swp i k q) M (swapRow i k S) := by
  have k1 : ∀ x, x ≠ gs → ((w.setCell ⟨gs, i, none⟩ (.slice (some ⟨gb, q k * d, none⟩) d d)).setCell ⟨gs, k, none⟩ (.slice (some ⟨gb, q i * d, none⟩) d d)).heap[x]? = w.heap[x]? := fun x hx => (Below.heap_setCell _ _ _ x hx).trans (Below.heap_setCell _ _ _ x hx)
  obtain ⟨e1, e2, e3, e4, e5, e6⟩ := h.ne1
  obtain ⟨f1, f2, f3, f4⟩ := h.ne2
  obtain ⟨g1, g2, g3, g4⟩ := h.ne3
  exact ⟨(k1 g f3).trans h.blk, tab_same h.tab (k1 gt g3), h.m.same (k1 gm e3) (k1 ga e5), (h.s.swap e2 hi hk).1, h.pp, h.pq.swp hi hk, h.ne1, h.ne2, h.ne3, by simpa using h.lt, h.n1, h.c1, h.d1⟩
theorem chg_drew {F : Nat → Prop} (w : World) : Chg F w w.drew := ⟨rfl, rfl, rfl, Nat.le_refl _, fun _ _ _ => rfl⟩
theorem chg_sets {F : Nat → Prop} {g : Nat} (hg : F g) (w : World) (i k : Nat) (u v : Value) : Chg F w ((w.setCell ⟨g, i, none⟩ u).setCell ⟨g, k, none⟩ v) :=
  (Chg.set (a := ⟨g, i, none⟩) hg).trans (Chg.set (a := ⟨g, k, none⟩) hg) (fun _ hx => .inl hx)
set_option maxHeartbeats 4000000 in
set_option maxRecDepth 100000 in
theorem swap_calls {w : World} {g gt gm ga gs gb n c d : Nat} {p q : Nat → Nat} {M S : Lin.M} (h : Wk w g gt gm ga gs gb n c d p q M S) {i k : Nat} (hi : i < n) (hk : k < n) :
    Calls Try.prog 78 #[.pointer (some ⟨g, 0, none⟩), .int .i64 (i : Int), .int .i64 (k : Int)] w fun e w' => e = .returned (.tuple #[]) ∧ Wk w' g gt gm ga gs gb n c d (swp i k p) (swp i k q) (swapRow i k M) (swapRow i k S) ∧ Chg (WF gm ga gs gb) w w' := by
  obtain ⟨o1, ho1⟩ : ∃ o1, o1 = p i * c := ⟨_, rfl⟩
  obtain ⟨o2, ho2⟩ : ∃ o2, o2 = p k * c := ⟨_, rfl⟩
  obtain ⟨o3, ho3⟩ : ∃ o3, o3 = q i * d := ⟨_, rfl⟩
  obtain ⟨o4, ho4⟩ : ∃ o4, o4 = q k * d := ⟨_, rfl⟩
  have a1 := h.c1'
  have a2 := h.m.rows i hi
  have a3 := h.m.rows k hk
  have z1 := h.m.fm i
  have z2 := h.m.fm k
  have a4 := (h.m.swap h.ne1.1 hi hk).2
  have hw1 := (h.swapM hi hk).drw
  rw [← ho1] at a2 hw1
  rw [← ho2] at a3 a4 hw1
  have hch1 : Chg (WF gm ga gs gb) w ((w.setCell ⟨gm, i, none⟩ (.slice (some ⟨ga, o2, none⟩) c c)).setCell ⟨gm, k, none⟩ (.slice (some ⟨ga, o1, none⟩) c c)).drew :=
    (chg_sets (F := WF gm ga gs gb) (.inl rfl) w _ _ _ _).trans (chg_drew (F := WF gm ga gs gb) _) (fun x hx => .inl hx)
  obtain ⟨w1, hw1e⟩ : ∃ w1, w1 = ((w.setCell ⟨gm, i, none⟩ (.slice (some ⟨ga, o2, none⟩) c c)).setCell ⟨gm, k, none⟩ (.slice (some ⟨ga, o1, none⟩) c c)).drew := ⟨_, rfl⟩
  rw [← hw1e] at hw1 hch1
  have b1 := hw1.c2
  have b2 := hw1.s.rows i hi
  have b3 := hw1.s.rows k hk
  have y1 := hw1.s.fm i
  have y2 := hw1.s.fm k
  have b4 := (hw1.s.swap hw1.ne1.2.1 hi hk).2
  have hw2 := (hw1.swapS hi hk).drw
  rw [← ho3] at b2 hw2
  rw [← ho4] at b3 b4 hw2
  have hch2 : Chg (WF gm ga gs gb) w ((w1.setCell ⟨gs, i, none⟩ (.slice (some ⟨gb, o4, none⟩) d d)).setCell ⟨gs, k, none⟩ (.slice (some ⟨gb, o3, none⟩) d d)).drew :=
    (hch1.trans (chg_sets (F := WF gm ga gs gb) (.inr (.inr (.inl rfl))) w1 _ _ _ _) (fun x hx => .inl hx)).trans (chg_drew (F := WF gm ga gs gb) _) (fun x hx => .inl hx)
  have HW := Lib.hid hw2
  have HC := Lib.hid hch2
  have HE := Lib.hid hw1e
  have i1 : (0 : Int) ≤ (i : Int) := by omega
  have i2 : (i : Int) < (n : Int) := by omega
  have i3 : (0 : Int) ≤ (k : Int) := by omega
  have i4 : (k : Int) < (n : Int) := by omega
  clear hw1 hch1 hw2 hch2 hw1e ho1 ho2 ho3 ho4 h
  go_enter Try.func78, Try.ntmps78
  go_wp2
  refine start_ (n := 28) (S := fun w' => w'.cell? ⟨g, 1, none⟩ = some (.slice (some ⟨gm, 0, none⟩) n n) ∧ w'.cell? ⟨gm, i, none⟩ = some (.slice (some ⟨ga, o1, none⟩) c c) ∧ w'.cell? ⟨gm, k, none⟩ = some (.slice (some ⟨ga, o2, none⟩) c c)) (ds := [25, 27]) #[false, false, false, false, false, false, false, false, false, false, false, false, false, false, false, false, false, false, false, false, false, false, false, false, false, false, false, false] (by kernel_rfl) rfl rfl ⟨a1, a2, a3⟩ (fun hHeld => ?_)
  refine pure_ (i := 0) (N := some 6) (v := ?_) (a' := ?_) #[true, false, false, false, false, false, false, false, false, false, false, false, false, false, false, false, false, false, false, false, false, false, false, false, false, false, false, false] rfl rfl (by kernel_rfl) (fun _ _ _ h => h) (Or.inl ⟨by rfl, ?_⟩) ?_ ?_
  rotate_left
  · intro w'
    go_simp
    with_reducible rfl
  rotate_left
  · simp only [Act.put, List.setIfInBounds_toArray, List.set_cons_zero, List.set_cons_succ, i64_w, i32_w]
    rfl
  refine pure_ (i := 1) (N := some 7) (v := ?_) (a' := ?_) #[true, true, false, false, false, false, false, false, false, false, false, false, false, false, false, false, false, false, false, false, false, false, false, false, false, false, false, false] rfl rfl (by kernel_rfl) (fun _ _ _ h => h) (Or.inl ⟨by rfl, ?_⟩) ?_ ?_
  rotate_left
  · intro w'
    go_simp
    with_reducible rfl
  rotate_left
  · simp only [Act.put, List.setIfInBounds_toArray, List.set_cons_zero, List.set_cons_succ, i64_w, i32_w]
    rfl
  refine pure_ (i := 2) (N := some 8) (v := ?_) (a' := ?_) #[true, true, true, false, false, false, false, false, false, false, false, false, false, false, false, false, false, false, false, false, false, false, false, false, false, false, false, false] rfl rfl (by kernel_rfl) (fun _ _ _ h => h) (Or.inl ⟨by rfl, ?_⟩) ?_ ?_
  rotate_left
  · intro w'
    go_simp
    with_reducible rfl
  rotate_left
  · simp only [Act.put, List.setIfInBounds_toArray, List.set_cons_zero, List.set_cons_succ, i64_w, i32_w]
    rfl
  refine pure_ (i := 4) (N := some 10) (v := ?_) (a' := ?_) #[true, true, true, false, true, false, false, false, false, false, false, false, false, false, false, false, false, false, false, false, false, false, false, false, false, false, false, false] rfl rfl (by kernel_rfl) (fun _ _ _ h => h) (Or.inl ⟨by rfl, ?_⟩) ?_ ?_
  rotate_left
  · intro w'
    go_simp
    with_reducible rfl
  rotate_left
  · simp only [Act.put, List.setIfInBounds_toArray, List.set_cons_zero, List.set_cons_succ, i64_w, i32_w]
    rfl
  refine pure_ (i := 5) (N := some 11) (v := ?_) (a' := ?_) #[true, true, true, false, true, true, false, false, false, false, false, false, false, false, false, false, false, false, false, false, false, false, false, false, false, false, false, false] rfl rfl (by kernel_rfl) (fun _ _ _ h => h) (Or.inl ⟨by rfl, ?_⟩) ?_ ?_
  rotate_left
  · intro w'
    go_simp
    with_reducible rfl
  rotate_left
  · simp only [Act.put, List.setIfInBounds_toArray, List.set_cons_zero, List.set_cons_succ, i64_w, i32_w]
    rfl
  refine pure_ (i := 6) (N := some 12) (v := ?_) (a' := ?_) #[true, true, true, false, true, true, true, false, false, false, false, false, false, false, false, false, false, false, false, false, false, false, false, false, false, false, false, false] rfl rfl (by kernel_rfl) (fun _ _ _ h => h) (Or.inl ⟨by rfl, ?_⟩) ?_ ?_
  rotate_left
  · intro w'
    go_simp
    with_reducible rfl
  rotate_left
  · simp only [Act.put, List.setIfInBounds_toArray, List.set_cons_zero, List.set_cons_succ, i64_w, i32_w]
    rfl
  refine pure_ (i := 7) (N := some 13) (v := ?_) (a' := ?_) #[true, true, true, false, true, true, true, true, false, false, false, false, false, false, false, false, false, false, false, false, false, false, false, false, false, false, false, false] rfl rfl (by kernel_rfl) (fun _ _ _ h => h) (Or.inl ⟨by rfl, ?_⟩) ?_ ?_
  rotate_left
  · intro w'
    go_simp
    with_reducible rfl
  rotate_left
  · simp only [Act.put, List.setIfInBounds_toArray, List.set_cons_zero, List.set_cons_succ, i64_w, i32_w]
    rfl
  refine pure_ (i := 9) (N := some 15) (v := ?_) (a' := ?_) #[true, true, true, false, true, true, true, true, false, true, false, false, false, false, false, false, false, false, false, false, false, false, false, false, false, false, false, false] rfl rfl (by kernel_rfl) (fun _ _ _ h => h) (Or.inl ⟨by rfl, ?_⟩) ?_ ?_
  rotate_left
  · intro w'
    go_simp
    with_reducible rfl
  rotate_left
  · simp only [Act.put, List.setIfInBounds_toArray, List.set_cons_zero, List.set_cons_succ, i64_w, i32_w]
    rfl
  refine pure_ (i := 10) (N := some 16) (v := ?_) (a' := ?_) #[true, true, true, false, true, true, true, true, false, true, true, false, false, false, false, false, false, false, false, false, false, false, false, false, false, false, false, false] rfl rfl (by kernel_rfl) (fun _ _ _ h => h) (Or.inl ⟨by rfl, ?_⟩) ?_ ?_
  rotate_left
  · intro w'
    go_simp
    with_reducible rfl
  rotate_left
  · simp only [Act.put, List.setIfInBounds_toArray, List.set_cons_zero, List.set_cons_succ, i64_w, i32_w]
    rfl
  refine pure_ (i := 11) (N := some 17) (v := ?_) (a' := ?_) #[true, true, true, false, true, true, true, true, false, true, true, true, false, false, false, false, false, false, false, false, false, false, false, false, false, false, false, false] rfl rfl (by kernel_rfl) (fun _ _ _ h => h) (Or.inl ⟨by rfl, ?_⟩) ?_ ?_
  rotate_left
  · intro w'
    go_simp
    with_reducible rfl
  rotate_left
  · simp only [Act.put, List.setIfInBounds_toArray, List.set_cons_zero, List.set_cons_succ, i64_w, i32_w]
    rfl
  refine pure_ (i := 12) (N := some 18) (v := ?_) (a' := ?_) #[true, true, true, false, true, true, true, true, false, true, true, true, true, false, false, false, false, false, false, false, false, false, false, false, false, false, false, false] rfl rfl (by kernel_rfl) (fun _ _ _ h => h) (Or.inl ⟨by rfl, ?_⟩) ?_ ?_
  rotate_left
  · intro w'
    go_simp
    with_reducible rfl
  rotate_left
  · simp only [Act.put, List.setIfInBounds_toArray, List.set_cons_zero, List.set_cons_succ, i64_w, i32_w]
    rfl
  refine pure_ (i := 14) (N := some 20) (v := ?_) (a' := ?_) #[true, true, true, false, true, true, true, true, false, true, true, true, true, false, true, false, false, false, false, false, false, false, false, false, false, false, false, false] rfl rfl (by kernel_rfl) (fun _ _ _ h => h) (Or.inl ⟨by rfl, ?_⟩) ?_ ?_
  rotate_left
  · intro w'
    go_simp
    with_reducible rfl
  rotate_left
  · simp only [Act.put, List.setIfInBounds_toArray, List.set_cons_zero, List.set_cons_succ, i64_w, i32_w]
    rfl
  refine pure_ (i := 17) (N := some 23) (v := ?_) (a' := ?_) #[true, true, true, false, true, true, true, true, false, true, true, true, true, false, true, false, false, true, false, false, false, false, false, false, false, false, false, false] rfl rfl (by kernel_rfl) (fun _ _ _ h => h) (Or.inl ⟨by rfl, ?_⟩) ?_ ?_
  rotate_left
  · intro w'
    go_simp
    with_reducible rfl
  rotate_left
  · simp only [Act.put, List.setIfInBounds_toArray, List.set_cons_zero, List.set_cons_succ, i64_w, i32_w]
    rfl
  refine pure_ (i := 18) (N := some 24) (v := ?_) (a' := ?_) #[true, true, true, false, true, true, true, true, false, true, true, true, true, false, true, false, false, true, true, false, false, false, false, false, false, false, false, false] rfl rfl (by kernel_rfl) (fun _ _ _ h => h) (Or.inl ⟨by rfl, ?_⟩) ?_ ?_
  rotate_left
  · intro w'
    go_simp
    with_reducible rfl
  rotate_left
  · simp only [Act.put, List.setIfInBounds_toArray, List.set_cons_zero, List.set_cons_succ, i64_w, i32_w]
    rfl
  refine pure_ (i := 19) (N := some 25) (v := ?_) (a' := ?_) #[true, true, true, false, true, true, true, true, false, true, true, true, true, false, true, false, false, true, true, true, false, false, false, false, false, false, false, false] rfl rfl (by kernel_rfl) (fun _ _ _ h => h) (Or.inl ⟨by rfl, ?_⟩) ?_ ?_
  rotate_left
  · intro w'
    go_simp
    with_reducible rfl
  rotate_left
  · simp only [Act.put, List.setIfInBounds_toArray, List.set_cons_zero, List.set_cons_succ, i64_w, i32_w]
    rfl
  refine pure_ (i := 21) (N := some 27) (v := ?_) (a' := ?_) #[true, true, true, false, true, true, true, true, false, true, true, true, true, false, true, false, false, true, true, true, false, true, false, false, false, false, false, false] rfl rfl (by kernel_rfl) (fun _ _ _ h => h) (Or.inl ⟨by rfl, ?_⟩) ?_ ?_
  rotate_left
  · intro w'
    go_simp
    with_reducible rfl
  rotate_left
  · simp only [Act.put, List.setIfInBounds_toArray, List.set_cons_zero, List.set_cons_succ, i64_w, i32_w]
    rfl
  refine take_ (i := 3) (N := some 9) (v := ?_) (a' := ?_) #[true, true, true, true, true, true, true, true, false, true, true, true, true, false, true, false, false, true, true, true, false, true, false, false, false, false, false, false] rfl rfl (by kernel_rfl) (fun _ _ _ h => h) (Or.inl ⟨by rfl, ?_⟩) hHeld ?_ ?_
  rotate_left
  · rintro w' ⟨s0, s1, s2⟩
    go_simp
    with_reducible rfl
  rotate_left
  · simp only [Act.put, List.setIfInBounds_toArray, List.set_cons_zero, List.set_cons_succ, i64_w, i32_w]
    rfl
  refine take_ (i := 8) (N := some 14) (v := ?_) (a' := ?_) #[true, true, true, true, true, true, true, true, true, true, true, true, true, false, true, false, false, true, true, true, false, true, false, false, false, false, false, false] rfl rfl (by kernel_rfl) (fun _ _ _ h => h) (Or.inl ⟨by rfl, ?_⟩) hHeld ?_ ?_
  rotate_left
  · rintro w' ⟨s0, s1, s2⟩
    go_simp
    with_reducible rfl
  rotate_left
  · simp only [Act.put, List.setIfInBounds_toArray, List.set_cons_zero, List.set_cons_succ, i64_w, i32_w]
    rfl
  refine take_ (i := 13) (N := some 19) (v := ?_) (a' := ?_) #[true, true, true, true, true, true, true, true, true, true, true, true, true, true, true, false, false, true, true, true, false, true, false, false, false, false, false, false] rfl rfl (by kernel_rfl) (fun _ _ _ h => h) (Or.inl ⟨by rfl, ?_⟩) hHeld ?_ ?_
  rotate_left
  · rintro w' ⟨s0, s1, s2⟩
    go_simp
    with_reducible rfl
  rotate_left
  · simp only [Act.put, List.setIfInBounds_toArray, List.set_cons_zero, List.set_cons_succ, i64_w, i32_w]
    rfl
  refine pure_ (i := 15) (N := some 21) (v := ?_) (a' := ?_) #[true, true, true, true, true, true, true, true, true, true, true, true, true, true, true, true, false, true, true, true, false, true, false, false, false, false, false, false] rfl rfl (by kernel_rfl) (fun _ _ _ h => h) (Or.inl ⟨by rfl, ?_⟩) ?_ ?_
  rotate_left
  · intro w'
    go_simp
    with_reducible rfl
  rotate_left
  · simp only [Act.put, List.setIfInBounds_toArray, List.set_cons_zero, List.set_cons_succ, i64_w, i32_w]
    rfl
  refine take_ (i := 16) (N := some 22) (v := ?_) (a' := ?_) #[true, true, true, true, true, true, true, true, true, true, true, true, true, true, true, true, true, true, true, true, false, true, false, false, false, false, false, false] rfl rfl (by kernel_rfl) (fun _ _ _ h => h) (Or.inl ⟨by rfl, ?_⟩) hHeld ?_ ?_
  rotate_left
  · rintro w' ⟨s0, s1, s2⟩
    go_simp
    with_reducible rfl
  rotate_left
  · simp only [Act.put, List.setIfInBounds_toArray, List.set_cons_zero, List.set_cons_succ, i64_w, i32_w]
    rfl
  refine take_ (i := 20) (N := some 26) (v := ?_) (a' := ?_) #[true, true, true, true, true, true, true, true, true, true, true, true, true, true, true, true, true, true, true, true, true, true, false, false, false, false, false, false] rfl rfl (by kernel_rfl) (fun _ _ _ h => h) (Or.inl ⟨by rfl, ?_⟩) hHeld ?_ ?_
  rotate_left
  · rintro w' ⟨s0, s1, s2⟩
    go_simp
    with_reducible rfl
  rotate_left
  · simp only [Act.put, List.setIfInBounds_toArray, List.set_cons_zero, List.set_cons_succ, i64_w, i32_w]
    rfl
  refine pure_ (i := 22) (N := some 28) (v := ?_) (a' := ?_) #[true, true, true, true, true, true, true, true, true, true, true, true, true, true, true, true, true, true, true, true, true, true, true, false, false, false, false, false] rfl rfl (by kernel_rfl) (fun _ _ _ h => h) (Or.inl ⟨by rfl, ?_⟩) ?_ ?_
  rotate_left
  · intro w'
    go_simp
    with_reducible rfl
  rotate_left
  · simp only [Act.put, List.setIfInBounds_toArray, List.set_cons_zero, List.set_cons_succ, i64_w, i32_w]
    rfl
  refine take_ (i := 23) (N := some 29) (v := ?_) (a' := ?_) #[true, true, true, true, true, true, true, true, true, true, true, true, true, true, true, true, true, true, true, true, true, true, true, true, false, false, false, false] rfl rfl (by kernel_rfl) (fun _ _ _ h => h) (Or.inl ⟨by rfl, ?_⟩) hHeld ?_ ?_
  rotate_left
  · rintro w' ⟨s0, s1, s2⟩
    go_simp
    with_reducible rfl
  rotate_left
  · simp only [Act.put, List.setIfInBounds_toArray, List.set_cons_zero, List.set_cons_succ, i64_w, i32_w]
    rfl
  refine pure_ (i := 24) (N := some 30) (v := ?_) (a' := ?_) #[true, true, true, true, true, true, true, true, true, true, true, true, true, true, true, true, true, true, true, true, true, true, true, true, true, false, false, false] rfl rfl (by kernel_rfl) (fun _ _ _ h => h) (Or.inl ⟨by rfl, ?_⟩) ?_ ?_
  rotate_left
  · intro w'
    go_simp
    with_reducible rfl
  rotate_left
  · simp only [Act.put, List.setIfInBounds_toArray, List.set_cons_zero, List.set_cons_succ, i64_w, i32_w]
    rfl
  refine last_ (i := 25) (N := none) #[true, true, true, true, true, true, true, true, true, true, true, true, true, true, true, true, true, true, true, true, true, true, true, true, true, true, false, false] rfl rfl (by kernel_rfl) (by decide) (fun K hK => ?_)
  refine skip_ (w1 := ?_) (by rfl) rfl ?_ ?_
  rotate_left
  · go_simp
    rfl
  refine hK.out _ _ ?_
  clear hK K
  refine pure_ (i := 26) (N := some 31) (v := ?_) (a' := ?_) #[true, true, true, true, true, true, true, true, true, true, true, true, true, true, true, true, true, true, true, true, true, true, true, true, true, true, true, false] rfl rfl (by kernel_rfl) (fun _ _ _ h => h) (Or.inl ⟨by rfl, ?_⟩) ?_ ?_
  rotate_left
  · intro w'
    go_simp
    with_reducible rfl
  rotate_left
  · simp only [Act.put, List.setIfInBounds_toArray, List.set_cons_zero, List.set_cons_succ, i64_w, i32_w]
    rfl
  refine last_ (i := 27) (N := none) #[true, true, true, true, true, true, true, true, true, true, true, true, true, true, true, true, true, true, true, true, true, true, true, true, true, true, true, true] rfl rfl (by kernel_rfl) (by decide) (fun K hK => ?_)
  refine skip_ (w1 := ?_) (by rfl) rfl ?_ ?_
  rotate_left
  · go_simp
    rfl
  refine hK.out _ _ ?_
  clear hK K
  refine done_ (by kernel_rfl) ?_
  go_wp2
  rw [← HE.out]
  refine start_ (n := 28) (S := fun w' => w'.cell? ⟨g, 2, none⟩ = some (.slice (some ⟨gs, 0, none⟩) n n) ∧ w'.cell? ⟨gs, i, none⟩ = some (.slice (some ⟨gb, o3, none⟩) d d) ∧ w'.cell? ⟨gs, k, none⟩ = some (.slice (some ⟨gb, o4, none⟩) d d)) (ds := [25, 27]) #[false, false, false, false, false, false, false, false, false, false, false, false, false, false, false, false, false, false, false, false, false, false, false, false, false, false, false, false] (by kernel_rfl) rfl rfl ⟨b1, b2, b3⟩ (fun hHeld => ?_)
  refine pure_ (i := 0) (N := some 32) (v := ?_) (a' := ?_) #[true, false, false, false, false, false, false, false, false, false, false, false, false, false, false, false, false, false, false, false, false, false, false, false, false, false, false, false] rfl rfl (by kernel_rfl) (fun _ _ _ h => h) (Or.inl ⟨by rfl, ?_⟩) ?_ ?_
  rotate_left
  · intro w'
    go_simp
    with_reducible rfl
  rotate_left
  · simp only [Act.put, List.setIfInBounds_toArray, List.set_cons_zero, List.set_cons_succ, i64_w, i32_w]
    rfl
  refine pure_ (i := 1) (N := some 33) (v := ?_) (a' := ?_) #[true, true, false, false, false, false, false, false, false, false, false, false, false, false, false, false, false, false, false, false, false, false, false, false, false, false, false, false] rfl rfl (by kernel_rfl) (fun _ _ _ h => h) (Or.inl ⟨by rfl, ?_⟩) ?_ ?_
  rotate_left
  · intro w'
    go_simp
    with_reducible rfl
  rotate_left
  · simp only [Act.put, List.setIfInBounds_toArray, List.set_cons_zero, List.set_cons_succ, i64_w, i32_w]
    rfl
  refine pure_ (i := 2) (N := some 34) (v := ?_) (a' := ?_) #[true, true, true, false, false, false, false, false, false, false, false, false, false, false, false, false, false, false, false, false, false, false, false, false, false, false, false, false] rfl rfl (by kernel_rfl) (fun _ _ _ h => h) (Or.inl ⟨by rfl, ?_⟩) ?_ ?_
  rotate_left
  · intro w'
    go_simp
    with_reducible rfl
  rotate_left
  · simp only [Act.put, List.setIfInBounds_toArray, List.set_cons_zero, List.set_cons_succ, i64_w, i32_w]
    rfl
  refine pure_ (i := 4) (N := some 36) (v := ?_) (a' := ?_) #[true, true, true, false, true, false, false, false, false, false, false, false, false, false, false, false, false, false, false, false, false, false, false, false, false, false, false, false] rfl rfl (by kernel_rfl) (fun _ _ _ h => h) (Or.inl ⟨by rfl, ?_⟩) ?_ ?_
  rotate_left
  · intro w'
    go_simp
    with_reducible rfl
  rotate_left
  · simp only [Act.put, List.setIfInBounds_toArray, List.set_cons_zero, List.set_cons_succ, i64_w, i32_w]
    rfl
  refine pure_ (i := 5) (N := some 37) (v := ?_) (a' := ?_) #[true, true, true, false, true, true, false, false, false, false, false, false, false, false, false, false, false, false, false, false, false, false, false, false, false, false, false, false] rfl rfl (by kernel_rfl) (fun _ _ _ h => h) (Or.inl ⟨by rfl, ?_⟩) ?_ ?_
  rotate_left
  · intro w'
    go_simp
    with_reducible rfl
  rotate_left
  · simp only [Act.put, List.setIfInBounds_toArray, List.set_cons_zero, List.set_cons_succ, i64_w, i32_w]
    rfl
  refine pure_ (i := 6) (N := some 38) (v := ?_) (a' := ?_) #[true, true, true, false, true, true, true, false, false, false, false, false, false, false, false, false, false, false, false, false, false, false, false, false, false, false, false, false] rfl rfl (by kernel_rfl) (fun _ _ _ h => h) (Or.inl ⟨by rfl, ?_⟩) ?_ ?_
  rotate_left
  · intro w'
    go_simp
    with_reducible rfl
  rotate_left
  · simp only [Act.put, List.setIfInBounds_toArray, List.set_cons_zero, List.set_cons_succ, i64_w, i32_w]
    rfl
  refine pure_ (i := 7) (N := some 39) (v := ?_) (a' := ?_) #[true, true, true, false, true, true, true, true, false, false, false, false, false, false, false, false, false, false, false, false, false, false, false, false, false, false, false, false] rfl rfl (by kernel_rfl) (fun _ _ _ h => h) (Or.inl ⟨by rfl, ?_⟩) ?_ ?_
  rotate_left
  · intro w'
    go_simp
    with_reducible rfl
  rotate_left
  · simp only [Act.put, List.setIfInBounds_toArray, List.set_cons_zero, List.set_cons_succ, i64_w, i32_w]
    rfl
  refine pure_ (i := 9) (N := some 41) (v := ?_) (a' := ?_) #[true, true, true, false, true, true, true, true, false, true, false, false, false, false, false, false, false, false, false, false, false, false, false, false, false, false, false, false] rfl rfl (by kernel_rfl) (fun _ _ _ h => h) (Or.inl ⟨by rfl, ?_⟩) ?_ ?_
  rotate_left
  · intro w'
    go_simp
    with_reducible rfl
  rotate_left
  · simp only [Act.put, List.setIfInBounds_toArray, List.set_cons_zero, List.set_cons_succ, i64_w, i32_w]
    rfl
  refine pure_ (i := 10) (N := some 42) (v := ?_) (a' := ?_) #[true, true, true, false, true, true, true, true, false, true, true, false, false, false, false, false, false, false, false, false, false, false, false, false, false, false, false, false] rfl rfl (by kernel_rfl) (fun _ _ _ h => h) (Or.inl ⟨by rfl, ?_⟩) ?_ ?_
  rotate_left
  · intro w'
    go_simp
    with_reducible rfl
  rotate_left
  · simp only [Act.put, List.setIfInBounds_toArray, List.set_cons_zero, List.set_cons_succ, i64_w, i32_w]
    rfl
  refine pure_ (i := 11) (N := some 43) (v := ?_) (a' := ?_) #[true, true, true, false, true, true, true, true, false, true, true, true, false, false, false, false, false, false, false, false, false, false, false, false, false, false, false, false] rfl rfl (by kernel_rfl) (fun _ _ _ h => h) (Or.inl ⟨by rfl, ?_⟩) ?_ ?_
  rotate_left
  · intro w'
    go_simp
    with_reducible rfl
  rotate_left
  · simp only [Act.put, List.setIfInBounds_toArray, List.set_cons_zero, List.set_cons_succ, i64_w, i32_w]
    rfl
  refine pure_ (i := 12) (N := some 44) (v := ?_) (a' := ?_) #[true, true, true, false, true, true, true, true, false, true, true, true, true, false, false, false, false, false, false, false, false, false, false, false, false, false, false, false] rfl rfl (by kernel_rfl) (fun _ _ _ h => h) (Or.inl ⟨by rfl, ?_⟩) ?_ ?_
  rotate_left
  · intro w'
    go_simp
    with_reducible rfl
  rotate_left
  · simp only [Act.put, List.setIfInBounds_toArray, List.set_cons_zero, List.set_cons_succ, i64_w, i32_w]
    rfl
  refine pure_ (i := 14) (N := some 46) (v := ?_) (a' := ?_) #[true, true, true, false, true, true, true, true, false, true, true, true, true, false, true, false, false, false, false, false, false, false, false, false, false, false, false, false] rfl rfl (by kernel_rfl) (fun _ _ _ h => h) (Or.inl ⟨by rfl, ?_⟩) ?_ ?_
  rotate_left
  · intro w'
    go_simp
    with_reducible rfl
  rotate_left
  · simp only [Act.put, List.setIfInBounds_toArray, List.set_cons_zero, List.set_cons_succ, i64_w, i32_w]
    rfl
  refine pure_ (i := 17) (N := some 49) (v := ?_) (a' := ?_) #[true, true, true, false, true, true, true, true, false, true, true, true, true, false, true, false, false, true, false, false, false, false, false, false, false, false, false, false] rfl rfl (by kernel_rfl) (fun _ _ _ h => h) (Or.inl ⟨by rfl, ?_⟩) ?_ ?_
  rotate_left
  · intro w'
    go_simp
    with_reducible rfl
  rotate_left
  · simp only [Act.put, List.setIfInBounds_toArray, List.set_cons_zero, List.set_cons_succ, i64_w, i32_w]
    rfl
  refine pure_ (i := 18) (N := some 50) (v := ?_) (a' := ?_) #[true, true, true, false, true, true, true, true, false, true, true, true, true, false, true, false, false, true, true, false, false, false, false, false, false, false, false, false] rfl rfl (by kernel_rfl) (fun _ _ _ h => h) (Or.inl ⟨by rfl, ?_⟩) ?_ ?_
  rotate_left
  · intro w'
    go_simp
    with_reducible rfl
  rotate_left
  · simp only [Act.put, List.setIfInBounds_toArray, List.set_cons_zero, List.set_cons_succ, i64_w, i32_w]
    rfl
  refine pure_ (i := 19) (N := some 51) (v := ?_) (a' := ?_) #[true, true, true, false, true, true, true, true, false, true, true, true, true, false, true, false, false, true, true, true, false, false, false, false, false, false, false, false] rfl rfl (by kernel_rfl) (fun _ _ _ h => h) (Or.inl ⟨by rfl, ?_⟩) ?_ ?_
  rotate_left
  · intro w'
    go_simp
    with_reducible rfl
  rotate_left
  · simp only [Act.put, List.setIfInBounds_toArray, List.set_cons_zero, List.set_cons_succ, i64_w, i32_w]
    rfl
  refine pure_ (i := 21) (N := some 53) (v := ?_) (a' := ?_) #[true, true, true, false, true, true, true, true, false, true, true, true, true, false, true, false, false, true, true, true, false, true, false, false, false, false, false, false] rfl rfl (by kernel_rfl) (fun _ _ _ h => h) (Or.inl ⟨by rfl, ?_⟩) ?_ ?_
  rotate_left
  · intro w'
    go_simp
    with_reducible rfl
  rotate_left
  · simp only [Act.put, List.setIfInBounds_toArray, List.set_cons_zero, List.set_cons_succ, i64_w, i32_w]
    rfl
  refine take_ (i := 3) (N := some 35) (v := ?_) (a' := ?_) #[true, true, true, true, true, true, true, true, false, true, true, true, true, false, true, false, false, true, true, true, false, true, false, false, false, false, false, false] rfl rfl (by kernel_rfl) (fun _ _ _ h => h) (Or.inl ⟨by rfl, ?_⟩) hHeld ?_ ?_
  rotate_left
  · rintro w' ⟨s0, s1, s2⟩
    go_simp
    with_reducible rfl
  rotate_left
  · simp only [Act.put, List.setIfInBounds_toArray, List.set_cons_zero, List.set_cons_succ, i64_w, i32_w]
    rfl
  refine take_ (i := 8) (N := some 40) (v := ?_) (a' := ?_) #[true, true, true, true, true, true, true, true, true, true, true, true, true, false, true, false, false, true, true, true, false, true, false, false, false, false, false, false] rfl rfl (by kernel_rfl) (fun _ _ _ h => h) (Or.inl ⟨by rfl, ?_⟩) hHeld ?_ ?_
  rotate_left
  · rintro w' ⟨s0, s1, s2⟩
    go_simp
    with_reducible rfl
  rotate_left
  · simp only [Act.put, List.setIfInBounds_toArray, List.set_cons_zero, List.set_cons_succ, i64_w, i32_w]
    rfl
  refine take_ (i := 13) (N := some 45) (v := ?_) (a' := ?_) #[true, true, true, true, true, true, true, true, true, true, true, true, true, true, true, false, false, true, true, true, false, true, false, false, false, false, false, false] rfl rfl (by kernel_rfl) (fun _ _ _ h => h) (Or.inl ⟨by rfl, ?_⟩) hHeld ?_ ?_
  rotate_left
  · rintro w' ⟨s0, s1, s2⟩
    go_simp
    with_reducible rfl
  rotate_left
  · simp only [Act.put, List.setIfInBounds_toArray, List.set_cons_zero, List.set_cons_succ, i64_w, i32_w]
    rfl
  refine pure_ (i := 15) (N := some 47) (v := ?_) (a' := ?_) #[true, true, true, true, true, true, true, true, true, true, true, true, true, true, true, true, false, true, true, true, false, true, false, false, false, false, false, false] rfl rfl (by kernel_rfl) (fun _ _ _ h => h) (Or.inl ⟨by rfl, ?_⟩) ?_ ?_
  rotate_left
  · intro w'
    go_simp
    with_reducible rfl
  rotate_left
  · simp only [Act.put, List.setIfInBounds_toArray, List.set_cons_zero, List.set_cons_succ, i64_w, i32_w]
    rfl
  refine take_ (i := 16) (N := some 48) (v := ?_) (a' := ?_) #[true, true, true, true, true, true, true, true, true, true, true, true, true, true, true, true, true, true, true, true, false, true, false, false, false, false, false, false] rfl rfl (by kernel_rfl) (fun _ _ _ h => h) (Or.inl ⟨by rfl, ?_⟩) hHeld ?_ ?_
  rotate_left
  · rintro w' ⟨s0, s1, s2⟩
    go_simp
    with_reducible rfl
  rotate_left
  · simp only [Act.put, List.setIfInBounds_toArray, List.set_cons_zero, List.set_cons_succ, i64_w, i32_w]
    rfl
  refine take_ (i := 20) (N := some 52) (v := ?_) (a' := ?_) #[true, true, true, true, true, true, true, true, true, true, true, true, true, true, true, true, true, true, true, true, true, true, false, false, false, false, false, false] rfl rfl (by kernel_rfl) (fun _ _ _ h => h) (Or.inl ⟨by rfl, ?_⟩) hHeld ?_ ?_
  rotate_left
  · rintro w' ⟨s0, s1, s2⟩
    go_simp
    with_reducible rfl
  rotate_left
  · simp only [Act.put, List.setIfInBounds_toArray, List.set_cons_zero, List.set_cons_succ, i64_w, i32_w]
    rfl
  refine pure_ (i := 22) (N := some 54) (v := ?_) (a' := ?_) #[true, true, true, true, true, true, true, true, true, true, true, true, true, true, true, true, true, true, true, true, true, true, true, false, false, false, false, false] rfl rfl (by kernel_rfl) (fun _ _ _ h => h) (Or.inl ⟨by rfl, ?_⟩) ?_ ?_
  rotate_left
  · intro w'
    go_simp
    with_reducible rfl
  rotate_left
  · simp only [Act.put, List.setIfInBounds_toArray, List.set_cons_zero, List.set_cons_succ, i64_w, i32_w]
    rfl
  refine take_ (i := 23) (N := some 55) (v := ?_) (a' := ?_) #[true, true, true, true, true, true, true, true, true, true, true, true, true, true, true, true, true, true, true, true, true, true, true, true, false, false, false, false] rfl rfl (by kernel_rfl) (fun _ _ _ h => h) (Or.inl ⟨by rfl, ?_⟩) hHeld ?_ ?_
  rotate_left
  · rintro w' ⟨s0, s1, s2⟩
    go_simp
    with_reducible rfl
  rotate_left
  · simp only [Act.put, List.setIfInBounds_toArray, List.set_cons_zero, List.set_cons_succ, i64_w, i32_w]
    rfl
  refine pure_ (i := 24) (N := some 56) (v := ?_) (a' := ?_) #[true, true, true, true, true, true, true, true, true, true, true, true, true, true, true, true, true, true, true, true, true, true, true, true, true, false, false, false] rfl rfl (by kernel_rfl) (fun _ _ _ h => h) (Or.inl ⟨by rfl, ?_⟩) ?_ ?_
  rotate_left
  · intro w'
    go_simp
    with_reducible rfl
  rotate_left
  · simp only [Act.put, List.setIfInBounds_toArray, List.set_cons_zero, List.set_cons_succ, i64_w, i32_w]
    rfl
  refine last_ (i := 25) (N := none) #[true, true, true, true, true, true, true, true, true, true, true, true, true, true, true, true, true, true, true, true, true, true, true, true, true, true, false, false] rfl rfl (by kernel_rfl) (by decide) (fun K hK => ?_)
  refine skip_ (w1 := ?_) (by rfl) rfl ?_ ?_
  rotate_left
  · go_simp
    rfl
  refine hK.out _ _ ?_
  clear hK K
  refine pure_ (i := 26) (N := some 57) (v := ?_) (a' := ?_) #[true, true, true, true, true, true, true, true, true, true, true, true, true, true, true, true, true, true, true, true, true, true, true, true, true, true, true, false] rfl rfl (by kernel_rfl) (fun _ _ _ h => h) (Or.inl ⟨by rfl, ?_⟩) ?_ ?_
  rotate_left
  · intro w'
    go_simp
    with_reducible rfl
  rotate_left
  · simp only [Act.put, List.setIfInBounds_toArray, List.set_cons_zero, List.set_cons_succ, i64_w, i32_w]
    rfl
  refine last_ (i := 27) (N := none) #[true, true, true, true, true, true, true, true, true, true, true, true, true, true, true, true, true, true, true, true, true, true, true, true, true, true, true, true] rfl rfl (by kernel_rfl) (by decide) (fun K hK => ?_)
  refine skip_ (w1 := ?_) (by rfl) rfl ?_ ?_
  rotate_left
  · go_simp
    rfl
  refine hK.out _ _ ?_
  clear hK K
  refine done_ (by kernel_rfl) ?_
  go_wp2
  go_end0
  exact ⟨rfl, HW.out, HC.out⟩
end Go.Proofs.Ytoijjlpkoniipaa
end
section
/- Matrices: one byte of a row set. -/
namespace Go.Proofs.Ytoijjlpkoniipaa
open Go.RowKit Go.Proofs.YtoijjlpkoniipaaW.PrintWords Go.Proofs.YtoijjlpkoniipaaW.PrintLast Gf Lin
set_option linter.unusedSimpArgs false
theorem Wk.setM {w : World} {g gt gm ga gs gb n c d : Nat} {p q : Nat → Nat} {M S : Lin.M} (h : Wk w g gt gm ga gs gb n c d p q M S) {i j : Nat} (hi : i < n) (hj : j < c) (v : UInt8) :
    Wk (w.setCell ⟨ga, p i * c + j, none⟩ (.int .u8 (v.toNat : Int))) g gt gm ga gs gb n c d p q (updM M i j v) S := by
  have k1 : ∀ x, x ≠ ga → (w.setCell ⟨ga, p i * c + j, none⟩ (.int .u8 (v.toNat : Int))).heap[x]? = w.heap[x]? := fun x hx => Below.heap_setCell _ _ _ x hx
  obtain ⟨e1, e2, e3, e4, e5, e6⟩ := h.ne1
  obtain ⟨f1, f2, f3, f4⟩ := h.ne2
  obtain ⟨g1, g2, g3, g4⟩ := h.ne3
  exact ⟨(k1 g f2).trans h.blk, tab_same h.tab (k1 gt g2), h.m.set h.pp e1 hi hj v, h.s.same (k1 gs (Ne.symm e5)) (k1 gb (Ne.symm e6)), h.pp, h.pq, h.ne1, h.ne2, h.ne3, by simpa using h.lt, h.n1, h.c1, h.d1⟩
theorem Wk.setS {w : World} {g gt gm ga gs gb n c d : Nat} {p q : Nat → Nat} {M S : Lin.M} (h : Wk w g gt gm ga gs gb n c d p q M S) {i j : Nat} (hi : i < n) (hj : j < d) (v : UInt8) :
    Wk (w.setCell ⟨gb, q i * d + j, none⟩ (.int .u8 (v.toNat : Int))) g gt gm ga gs gb n c d p q M (updM S i j v) := by
  have k1 : ∀ x, x ≠ gb → (w.setCell ⟨gb, q i * d + j, none⟩ (.int .u8 (v.toNat : Int))).heap[x]? = w.heap[x]? := fun x hx => Below.heap_setCell _ _ _ x hx
  obtain ⟨e1, e2, e3, e4, e5, e6⟩ := h.ne1
  obtain ⟨f1, f2, f3, f4⟩ := h.ne2
  obtain ⟨g1, g2, g3, g4⟩ := h.ne3
  exact ⟨(k1 g f4).trans h.blk, tab_same h.tab (k1 gt g4), h.m.same (k1 gm e4) (k1 ga e6), h.s.set h.pq e2 hi hj v, h.pp, h.pq, h.ne1, h.ne2, h.ne3, by simpa using h.lt, h.n1, h.c1, h.d1⟩
/-- The first j bytes of a row have a multiple of another row added. -/
def addTo (ti src : Nat) (a : UInt8) (j : Nat) (M : Lin.M) : Lin.M := fun x b => if x = ti ∧ b < j then M x b ^^^ gm a (M src b) else M x b
theorem addTo_zero (ti src : Nat) (a : UInt8) (M : Lin.M) : addTo ti src a 0 M = M := by funext x b; unfold addTo; rw [if_neg (by omega)]
theorem addTo_at {ti src j : Nat} (a : UInt8) (M : Lin.M) : addTo ti src a j M ti j = M ti j := by unfold addTo; rw [if_neg (by omega)]
theorem addTo_src {ti src j b : Nat} (a : UInt8) (M : Lin.M) (h : ti ≠ src) : addTo ti src a j M src b = M src b := by unfold addTo; rw [if_neg (by omega)]
theorem addTo_step {ti src j : Nat} (a : UInt8) (M : Lin.M) (x b : Nat) : updM (addTo ti src a j M) ti j (M ti j ^^^ gm a (M src j)) x b = addTo ti src a (j + 1) M x b := by
  unfold updM
  by_cases h1 : x = ti ∧ b = j
  · obtain ⟨rfl, rfl⟩ := h1
    rw [if_pos ⟨rfl, rfl⟩]; unfold addTo; rw [if_pos ⟨rfl, by omega⟩]
  · rw [if_neg h1]; unfold addTo
    by_cases h2 : x = ti ∧ b < j
    · rw [if_pos h2, if_pos ⟨h2.1, by omega⟩]
    · rw [if_neg h2, if_neg (by omega)]
theorem addTo_done {ti src c : Nat} (a : UInt8) (M : Lin.M) (x b : Nat) (hb : b < c) : addRow ti src a M x b = addTo ti src a c M x b := by
  unfold addRow addTo
  by_cases h : x = ti
  · rw [if_pos h, if_pos ⟨h, hb⟩]
  · rw [if_neg h, if_neg (by omega)]
end Go.Proofs.Ytoijjlpkoniipaa
end
section
/- Matrices: add, the walk. -/
namespace Go.Proofs.Ytoijjlpkoniipaa
open Go.RowKit Go.Proofs.YtoijjlpkoniipaaW.PrintWords Go.Proofs.YtoijjlpkoniipaaW.PrintLast Gf Lin
set_option linter.unusedSimpArgs false
set_option maxHeartbeats 4000000 in
set_option maxRecDepth 100000 in
theorem wadd_calls {w : World} {g gt gm ga gs gb n c d : Nat} {p q : Nat → Nat} {M S : Lin.M} (h : Wk w g gt gm ga gs gb n c d p q M S) {ti src : Nat} (hti : ti < n) (hsrc : src < n) (hne : ti ≠ src) (a : UInt8) :
    Calls Try.prog 80 #[.pointer (some ⟨g, 0, none⟩), .int .i64 (ti : Int), .int .i64 (src : Int), .int .u8 (a.toNat : Int)] w fun e w' => e = .returned (.tuple #[]) ∧ Wk w' g gt gm ga gs gb n c d p q (addRow ti src a M) (addRow ti src a S) ∧ Chg (WF gm ga gs gb) w w' := by
  obtain ⟨oa0, ho1⟩ : ∃ o, o = p ti * c := ⟨_, rfl⟩
  obtain ⟨oa1, ho2⟩ : ∃ o, o = q ti * d := ⟨_, rfl⟩
  obtain ⟨ob0, ho3⟩ : ∃ o, o = p src * c := ⟨_, rfl⟩
  obtain ⟨ob1, ho4⟩ : ∃ o, o = q src * d := ⟨_, rfl⟩
  have hbo := both_calls h hti
  rw [← ho1, ← ho2] at hbo
  have H := Lib.hid h
  have HOA0 := Lib.hid ho1
  have HOA1 := Lib.hid ho2
  have HOB0 := Lib.hid ho3
  have HOB1 := Lib.hid ho4
  clear h ho1 ho2 ho3 ho4
  go_enter Try.func80, Try.ntmps80
  go_wp2_with fail
  refine hbo.mono ?_
  clear hbo
  rintro e w1 ⟨rfl, hb1⟩
  have h1 := H.out.below hb1
  have hbo := both_calls h1 hsrc
  rw [← HOB0.out, ← HOB1.out] at hbo
  have HB1 := Lib.hid hb1
  clear h1 hb1
  go_wp2_with fail
  refine hbo.mono ?_
  clear hbo
  rintro e w2 ⟨rfl, hb2⟩
  have hbw2 : Below w.heap.size w w2 := HB1.out.trans (hb2.mono HB1.out.size)
  clear hb2
  go_wp2_with fail
  obtain ⟨w3, hw3⟩ : ∃ w3, w3 = ((w2.alloc (.cells #[.slice (some ⟨ga, oa0, none⟩) c c, .slice (some ⟨gb, oa1, none⟩) d d] 113)).alloc (.cells #[.slice (some ⟨ga, ob0, none⟩) c c, .slice (some ⟨gb, ob1, none⟩) d d] 113)) := ⟨_, rfl⟩
  rw [← hw3]
  have hb3 : Below w.heap.size w w3 := by rw [hw3]; exact (hbw2.alloc hbw2.size _).alloc (by have := hbw2.size; simp; omega) _
  have hB8 : w3.heap[w2.heap.size]? = some (.cells #[.slice (some ⟨ga, oa0, none⟩) c c, .slice (some ⟨gb, oa1, none⟩) d d] 113) := by rw [hw3]; exact (Below.heap_alloc _ _ _ (by simp)).trans (heap_alloc_new w2 _)
  have hB9 : w3.heap[w2.heap.size + 1]? = some (.cells #[.slice (some ⟨ga, ob0, none⟩) c c, .slice (some ⟨gb, ob1, none⟩) d d] 113) := by
    rw [hw3]
    have := heap_alloc_new (w2.alloc (.cells #[.slice (some ⟨ga, oa0, none⟩) c c, .slice (some ⟨gb, oa1, none⟩) d d] 113)) (.cells #[.slice (some ⟨ga, ob0, none⟩) c c, .slice (some ⟨gb, ob1, none⟩) d d] 113)
    simpa using this
  have hs3 : w3.heap.size = w2.heap.size + 2 := by rw [hw3]; simp
  obtain ⟨A9, hA9⟩ : ∃ A9, A9 = w2.heap.size + 1 := ⟨_, rfl⟩
  rw [← hA9] at hB9 ⊢
  obtain ⟨A8, hA8⟩ : ∃ A8, A8 = w2.heap.size := ⟨_, rfl⟩
  rw [← hA8] at hB8 ⊢
  have hlt := H.out.lt
  have hsz := hbw2.size
  have hn8 : A8 < w3.heap.size ∧ ¬ WF gm ga gs gb A8 := ⟨by omega, by unfold WF; omega⟩
  have hn9 : A9 < w3.heap.size ∧ ¬ WF gm ga gs gb A9 := ⟨by omega, by unfold WF; omega⟩
  have h3 := H.out.below hb3
  have HW3 := Lib.hid h3
  have HN8 := Lib.hid hn8
  have HN9 := Lib.hid hn9
  have HB8 := Lib.hid hB8
  have HB9 := Lib.hid hB9
  have HB3 := Lib.hid hb3
  clear hw3 hb3 hB8 hB9 hs3 hA9 hA8 hlt hsz hn8 hn9 h3 hbw2
  go_loopw [18] (fun x wr => ∃ k : Nat, k ≤ 2 ∧ x = .int .i64 k ∧ Wk wr g gt gm ga gs gb n c d p q (if k = 0 then M else addRow ti src a M) (if k ≤ 1 then S else addRow ti src a S) ∧ Chg (WF gm ga gs gb) w3 wr) (fun x _ => 2 - (intOf x).toNat)
  case atStart => exact ⟨0, by omega, rfl, by simpa using HW3.out, Chg.refl _ _⟩
  case round =>
    obtain ⟨k, hk, rfl, hw, hch⟩ := hrel
    by_cases hlt : k < 2
    · by_cases hk0 : k = 0
      · subst hk0
        have hw : Wk wr g gt gm ga gs gb n c d p q M S := by simpa using hw
        have l1 : wr.cell? ⟨A8, 0, none⟩ = some (.slice (some ⟨ga, oa0, none⟩) c c) := by rw [cell_of_row _ _ 0 _ _ _ ((hch.block A8 HN8.out.1 HN8.out.2).trans HB8.out)]; rfl
        have HWK := Lib.hid hw
        have HCK := Lib.hid hch
        have hc1 := hw.c1
        obtain ⟨wo, hwo⟩ : ∃ wo, wo = wr := ⟨_, rfl⟩
        subst hwo
        clear hw hch hlt hk
        go_wp2_with fail
        go_loopw [25] (fun z wr => ∃ j : Nat, j ≤ c ∧ z = .int .i64 j ∧ Wk wr g gt gm ga gs gb n c d p q (addTo ti src a j M) S ∧ Chg (WF gm ga gs gb) w3 wr) (fun z _ => c - (intOf z).toNat)
        case atStart => exact ⟨0, by omega, rfl, by rw [addTo_zero]; exact HWK.out, HCK.out⟩
        case round =>
          obtain ⟨j, hj, rfl, hwj, hcj⟩ := hrel
          by_cases hjl : j < c
          · have hx0 := hwj.m.cells ti hti j hjl
            have hy0 := hwj.m.cells src hsrc j hjl
            rw [addTo_at] at hx0
            rw [addTo_src a M hne] at hy0
            have k8 := (hcj.block A8 HN8.out.1 HN8.out.2).trans HB8.out
            have k9 := (hcj.block A9 HN9.out.1 HN9.out.2).trans HB9.out
            have h1 : wr.cell? ⟨A8, 0, none⟩ = some (.slice (some ⟨ga, oa0, none⟩) c c) := by rw [cell_of_row _ _ 0 _ _ _ k8]; rfl
            have h2 : wr.cell? ⟨A9, 0, none⟩ = some (.slice (some ⟨ga, ob0, none⟩) c c) := by rw [cell_of_row _ _ 0 _ _ _ k9]; rfl
            have h5 := hwj.c0
            rw [← HOA0.out] at hx0
            rw [← HOB0.out] at hy0
            obtain ⟨x, hx⟩ : ∃ x, x = M ti j := ⟨_, rfl⟩
            obtain ⟨y, hy⟩ : ∃ y, y = M src j := ⟨_, rfl⟩
            rw [← hx] at hx0
            rw [← hy] at hy0
            have h3 := hx0
            have h4 := hy0
            have bd : Below wr.heap.size wr wr.drew := ⟨rfl, rfl, rfl, Nat.le_refl _, fun _ _ => rfl⟩
            have htb : Tab wr.drew gt := (hwj.below bd).tab
            have hxx0 := u8_xor_all x (Gf.gm a y)
            obtain ⟨v, hv⟩ : ∃ v, v = x ^^^ Gf.gm a y := ⟨_, rfl⟩
            have hxx : bits .xor .u8 (x.toNat : Int) ((Gf.gm a y).toNat : Int) = (v.toNat : Int) := by rw [hv]; exact hxx0
            have hfin : ∀ w6, Drawn0 wr.drew w6 → Wk (w6.setCell ⟨ga, oa0 + j, none⟩ (.int .u8 (v.toNat : Int))) g gt gm ga gs gb n c d p q (addTo ti src a (j + 1) M) S ∧ Chg (WF gm ga gs gb) w3 (w6.setCell ⟨ga, oa0 + j, none⟩ (.int .u8 (v.toNat : Int))) := fun w6 hd6 => by
              have hb6 := bd.trans hd6.below
              refine ⟨?_, (hcj.trans (Chg.of_below (F := WF gm ga gs gb) hb6) (fun _ hx => .inl hx)).trans (Chg.set (F := WF gm ga gs gb) (a := ⟨ga, oa0 + j, none⟩) (.inr (.inl rfl))) (fun _ hx => .inl hx)⟩
              have := (hwj.below hb6).setM hti hjl v
              rw [← HOA0.out] at this
              exact this.congr (fun x' _ b' _ => by rw [hv, hx, hy]; exact (addTo_step a M x' b').symm) (fun _ _ _ _ => rfl)
            have hstay0 : ∀ w6, Drawn0 wr.drew w6 → w6.cell? ⟨A8, 0, none⟩ = some (.slice (some ⟨ga, oa0, none⟩) c c) ∧ w6.cell? ⟨A9, 0, none⟩ = some (.slice (some ⟨ga, ob0, none⟩) c c) ∧ w6.cell? ⟨ga, oa0 + j, none⟩ = some (.int .u8 (x.toNat : Int)) ∧ w6.cell? ⟨ga, ob0 + j, none⟩ = some (.int .u8 (y.toNat : Int)) ∧ w6.cell? ⟨g, 0, none⟩ = some (.pointer (some ⟨gt, 0, none⟩)) ∧ w6.frozen? ⟨ga, oa0 + j, none⟩ = false := fun w6 hd6 => by
              have hb6 := bd.trans hd6.below
              exact ⟨pw_cell_below hb6 h1, pw_cell_below hb6 h2, pw_cell_below hb6 h3, pw_cell_below hb6 h4, pw_cell_below hb6 h5, (hwj.below hb6).m.fa _⟩
            have hstay := Lib.hid hstay0
            have HFIN := Lib.hid hfin
            have i1 : (0 : Int) ≤ (j : Int) := by omega
            have i2 : (j : Int) < (c : Int) := by omega
            clear hstay0 hfin hwj hcj k8 k9 hx0 hy0 hx hy hv bd hxx0
            go_wp2
            refine start_ (n := 21) (S := fun w' => w'.cell? ⟨A8, 0, none⟩ = some (.slice (some ⟨ga, oa0, none⟩) c c) ∧ w'.cell? ⟨A9, 0, none⟩ = some (.slice (some ⟨ga, ob0, none⟩) c c) ∧ w'.cell? ⟨ga, oa0 + j, none⟩ = some (.int .u8 (x.toNat : Int)) ∧ w'.cell? ⟨ga, ob0 + j, none⟩ = some (.int .u8 (y.toNat : Int)) ∧ w'.cell? ⟨g, 0, none⟩ = some (.pointer (some ⟨gt, 0, none⟩))) (ds := [20]) #[false, false, false, false, false, false, false, false, false, false, false, false, false, false, false, false, false, false, false, false, false] (by kernel_rfl) rfl rfl ⟨h1, h2, h3, h4, h5⟩ (fun hHeld => ?_)
            refine pure_ (i := 0) (N := some 28) (v := ?_) (a' := ?_) #[true, false, false, false, false, false, false, false, false, false, false, false, false, false, false, false, false, false, false, false, false] rfl rfl (by kernel_rfl) (fun _ _ _ h => h) (Or.inl ⟨by rfl, ?_⟩) ?_ ?_
            rotate_left
            · intro w'
              go_simp
              with_reducible rfl
            rotate_left
            · simp only [Act.put, List.setIfInBounds_toArray, List.set_cons_zero, List.set_cons_succ, i64_w, i32_w]
              rfl
            refine pure_ (i := 1) (N := some 29) (v := ?_) (a' := ?_) #[true, true, false, false, false, false, false, false, false, false, false, false, false, false, false, false, false, false, false, false, false] rfl rfl (by kernel_rfl) (fun _ _ _ h => h) (Or.inl ⟨by rfl, ?_⟩) ?_ ?_
            rotate_left
            · intro w'
              go_simp
              with_reducible rfl
            rotate_left
            · simp only [Act.put, List.setIfInBounds_toArray, List.set_cons_zero, List.set_cons_succ, i64_w, i32_w]
              rfl
            refine pure_ (i := 3) (N := some 31) (v := ?_) (a' := ?_) #[true, true, false, true, false, false, false, false, false, false, false, false, false, false, false, false, false, false, false, false, false] rfl rfl (by kernel_rfl) (fun _ _ _ h => h) (Or.inl ⟨by rfl, ?_⟩) ?_ ?_
            rotate_left
            · intro w'
              go_simp
              with_reducible rfl
            rotate_left
            · simp only [Act.put, List.setIfInBounds_toArray, List.set_cons_zero, List.set_cons_succ, i64_w, i32_w]
              rfl
            refine pure_ (i := 6) (N := some 34) (v := ?_) (a' := ?_) #[true, true, false, true, false, false, true, false, false, false, false, false, false, false, false, false, false, false, false, false, false] rfl rfl (by kernel_rfl) (fun _ _ _ h => h) (Or.inl ⟨by rfl, ?_⟩) ?_ ?_
            rotate_left
            · intro w'
              go_simp
              with_reducible rfl
            rotate_left
            · simp only [Act.put, List.setIfInBounds_toArray, List.set_cons_zero, List.set_cons_succ, i64_w, i32_w]
              rfl
            refine pure_ (i := 7) (N := some 35) (v := ?_) (a' := ?_) #[true, true, false, true, false, false, true, true, false, false, false, false, false, false, false, false, false, false, false, false, false] rfl rfl (by kernel_rfl) (fun _ _ _ h => h) (Or.inl ⟨by rfl, ?_⟩) ?_ ?_
            rotate_left
            · intro w'
              go_simp
              with_reducible rfl
            rotate_left
            · simp only [Act.put, List.setIfInBounds_toArray, List.set_cons_zero, List.set_cons_succ, i64_w, i32_w]
              rfl
            refine pure_ (i := 8) (N := some 36) (v := ?_) (a' := ?_) #[true, true, false, true, false, false, true, true, true, false, false, false, false, false, false, false, false, false, false, false, false] rfl rfl (by kernel_rfl) (fun _ _ _ h => h) (Or.inl ⟨by rfl, ?_⟩) ?_ ?_
            rotate_left
            · intro w'
              go_simp
              with_reducible rfl
            rotate_left
            · simp only [Act.put, List.setIfInBounds_toArray, List.set_cons_zero, List.set_cons_succ, i64_w, i32_w]
              rfl
            refine pure_ (i := 10) (N := some 38) (v := ?_) (a' := ?_) #[true, true, false, true, false, false, true, true, true, false, true, false, false, false, false, false, false, false, false, false, false] rfl rfl (by kernel_rfl) (fun _ _ _ h => h) (Or.inl ⟨by rfl, ?_⟩) ?_ ?_
            rotate_left
            · intro w'
              go_simp
              with_reducible rfl
            rotate_left
            · simp only [Act.put, List.setIfInBounds_toArray, List.set_cons_zero, List.set_cons_succ, i64_w, i32_w]
              rfl
            refine pure_ (i := 11) (N := some 39) (v := ?_) (a' := ?_) #[true, true, false, true, false, false, true, true, true, false, true, true, false, false, false, false, false, false, false, false, false] rfl rfl (by kernel_rfl) (fun _ _ _ h => h) (Or.inl ⟨by rfl, ?_⟩) ?_ ?_
            rotate_left
            · intro w'
              go_simp
              with_reducible rfl
            rotate_left
            · simp only [Act.put, List.setIfInBounds_toArray, List.set_cons_zero, List.set_cons_succ, i64_w, i32_w]
              rfl
            refine pure_ (i := 12) (N := some 40) (v := ?_) (a' := ?_) #[true, true, false, true, false, false, true, true, true, false, true, true, true, false, false, false, false, false, false, false, false] rfl rfl (by kernel_rfl) (fun _ _ _ h => h) (Or.inl ⟨by rfl, ?_⟩) ?_ ?_
            rotate_left
            · intro w'
              go_simp
              with_reducible rfl
            rotate_left
            · simp only [Act.put, List.setIfInBounds_toArray, List.set_cons_zero, List.set_cons_succ, i64_w, i32_w]
              rfl
            refine pure_ (i := 14) (N := some 42) (v := ?_) (a' := ?_) #[true, true, false, true, false, false, true, true, true, false, true, true, true, false, true, false, false, false, false, false, false] rfl rfl (by kernel_rfl) (fun _ _ _ h => h) (Or.inl ⟨by rfl, ?_⟩) ?_ ?_
            rotate_left
            · intro w'
              go_simp
              with_reducible rfl
            rotate_left
            · simp only [Act.put, List.setIfInBounds_toArray, List.set_cons_zero, List.set_cons_succ, i64_w, i32_w]
              rfl
            refine take_ (i := 2) (N := some 30) (v := ?_) (a' := ?_) #[true, true, true, true, false, false, true, true, true, false, true, true, true, false, true, false, false, false, false, false, false] rfl rfl (by kernel_rfl) (fun _ _ _ h => h) (Or.inl ⟨by rfl, ?_⟩) hHeld ?_ ?_
            rotate_left
            · rintro w' ⟨s0, s1, s2, s3, s4⟩
              go_simp
              with_reducible rfl
            rotate_left
            · simp only [Act.put, List.setIfInBounds_toArray, List.set_cons_zero, List.set_cons_succ, i64_w, i32_w]
              rfl
            refine pure_ (i := 4) (N := some 32) (v := ?_) (a' := ?_) #[true, true, true, true, true, false, true, true, true, false, true, true, true, false, true, false, false, false, false, false, false] rfl rfl (by kernel_rfl) (fun _ _ _ h => h) (Or.inl ⟨by rfl, ?_⟩) ?_ ?_
            rotate_left
            · intro w'
              go_simp
              with_reducible rfl
            rotate_left
            · simp only [Act.put, List.setIfInBounds_toArray, List.set_cons_zero, List.set_cons_succ, i64_w, i32_w]
              rfl
            refine take_ (i := 5) (N := some 33) (v := ?_) (a' := ?_) #[true, true, true, true, true, true, true, true, true, false, true, true, true, false, true, false, false, false, false, false, false] rfl rfl (by kernel_rfl) (fun _ _ _ h => h) (Or.inl ⟨by rfl, ?_⟩) hHeld ?_ ?_
            rotate_left
            · rintro w' ⟨s0, s1, s2, s3, s4⟩
              go_simp
              with_reducible rfl
            rotate_left
            · simp only [Act.put, List.setIfInBounds_toArray, List.set_cons_zero, List.set_cons_succ, i64_w, i32_w]
              rfl
            refine take_ (i := 9) (N := some 37) (v := ?_) (a' := ?_) #[true, true, true, true, true, true, true, true, true, true, true, true, true, false, true, false, false, false, false, false, false] rfl rfl (by kernel_rfl) (fun _ _ _ h => h) (Or.inl ⟨by rfl, ?_⟩) hHeld ?_ ?_
            rotate_left
            · rintro w' ⟨s0, s1, s2, s3, s4⟩
              go_simp
              with_reducible rfl
            rotate_left
            · simp only [Act.put, List.setIfInBounds_toArray, List.set_cons_zero, List.set_cons_succ, i64_w, i32_w]
              rfl
            refine take_ (i := 13) (N := some 41) (v := ?_) (a' := ?_) #[true, true, true, true, true, true, true, true, true, true, true, true, true, true, true, false, false, false, false, false, false] rfl rfl (by kernel_rfl) (fun _ _ _ h => h) (Or.inl ⟨by rfl, ?_⟩) hHeld ?_ ?_
            rotate_left
            · rintro w' ⟨s0, s1, s2, s3, s4⟩
              go_simp
              with_reducible rfl
            rotate_left
            · simp only [Act.put, List.setIfInBounds_toArray, List.set_cons_zero, List.set_cons_succ, i64_w, i32_w]
              rfl
            refine pure_ (i := 15) (N := some 43) (v := ?_) (a' := ?_) #[true, true, true, true, true, true, true, true, true, true, true, true, true, true, true, true, false, false, false, false, false] rfl rfl (by kernel_rfl) (fun _ _ _ h => h) (Or.inl ⟨by rfl, ?_⟩) ?_ ?_
            rotate_left
            · intro w'
              go_simp
              with_reducible rfl
            rotate_left
            · simp only [Act.put, List.setIfInBounds_toArray, List.set_cons_zero, List.set_cons_succ, i64_w, i32_w]
              rfl
            refine take_ (i := 16) (N := some 44) (v := ?_) (a' := ?_) #[true, true, true, true, true, true, true, true, true, true, true, true, true, true, true, true, true, false, false, false, false] rfl rfl (by kernel_rfl) (fun _ _ _ h => h) (Or.inl ⟨by rfl, ?_⟩) hHeld ?_ ?_
            rotate_left
            · rintro w' ⟨s0, s1, s2, s3, s4⟩
              go_simp
              with_reducible rfl
            rotate_left
            · simp only [Act.put, List.setIfInBounds_toArray, List.set_cons_zero, List.set_cons_succ, i64_w, i32_w]
              rfl
            refine one_ (i := 17) (N := some 45) #[true, true, true, true, true, true, true, true, true, true, true, true, true, true, true, true, true, true, false, false, false] rfl rfl (by kernel_rfl) (by decide) (fun K hK => ?_)
            refine goes_ Try.func24 (by kernel_rfl) rfl #[.pointer (some ⟨gt, 0, none⟩), .int .u8 (a.toNat : Int), .int .u8 (y.toNat : Int)] (by rfl) rfl rfl (by simp only [List.map_toArray, List.map_cons, List.map_nil]; rfl) ?_
            with_reducible refine ((mul_calls gt a y _ htb)).mono ?_
            rintro e w6 ⟨rfl, hdr⟩
            refine ⟨_, rfl, ?_⟩
            obtain ⟨f1, f2, f3, f4, f5, f6⟩ := hstay.out w6 hdr
            have HF7 := Lib.hid (HFIN.out w6 hdr)
            refine hK.out _ _ ⟨f1, f2, f3, f4, f5⟩ (fun hHeld => ?_)
            clear hK K
            refine norm_ (a' := ?_) ?_ ?_
            rotate_left
            · show Act.put _ (some 45) _ = _
              simp only [Act.put, List.setIfInBounds_toArray, List.set_cons_zero, List.set_cons_succ, i64_w, i32_w]
              rfl
            refine pure_ (i := 18) (N := some 46) (v := ?_) (a' := ?_) #[true, true, true, true, true, true, true, true, true, true, true, true, true, true, true, true, true, true, true, false, false] rfl rfl (by kernel_rfl) (fun _ _ _ h => h) (Or.inl ⟨by rfl, ?_⟩) ?_ ?_
            rotate_left
            · intro w'
              go_simp
              with_reducible rfl
            rotate_left
            · simp only [Act.put, List.setIfInBounds_toArray, List.set_cons_zero, List.set_cons_succ, i64_w, i32_w]
              rfl
            refine pure_ (i := 19) (N := some 47) (v := ?_) (a' := ?_) #[true, true, true, true, true, true, true, true, true, true, true, true, true, true, true, true, true, true, true, true, false] rfl rfl (by kernel_rfl) (fun _ _ _ h => h) (Or.inl ⟨by rfl, ?_⟩) ?_ ?_
            rotate_left
            · intro w'
              go_simp
              with_reducible rfl
            rotate_left
            · simp only [Act.put, List.setIfInBounds_toArray, List.set_cons_zero, List.set_cons_succ, i64_w, i32_w]
              rfl
            refine last_ (i := 20) (N := none) #[true, true, true, true, true, true, true, true, true, true, true, true, true, true, true, true, true, true, true, true, true] rfl rfl (by kernel_rfl) (by decide) (fun K hK => ?_)
            refine skip_ (w1 := ?_) (by rfl) rfl ?_ ?_
            rotate_left
            · go_simp
              rfl
            refine hK.out _ _ ?_
            clear hK K
            refine done_ (by kernel_rfl) ?_
            go_wp2
            exact ⟨⟨j + 1, by omega, by go_num, HF7.out.1, HF7.out.2⟩, by simp [intOf]; omega⟩
          · obtain rfl : c = j := by omega
            have hdone : Wk wr g gt gm ga gs gb n c d p q (addRow ti src a M) S := hwj.congr (fun x' _ b' hb' => addTo_done a M x' b' hb') (fun _ _ _ _ => rfl)
            have HD := Lib.hid hdone
            have HCD := Lib.hid hcj
            clear hwj hcj hdone
            go_wp2_with fail
            exact ⟨⟨0 + 1, by omega, by go_num, by simpa using HD.out, HCD.out⟩, by simp [intOf]⟩
      · obtain rfl : k = 1 := by omega
        have hw : Wk wr g gt gm ga gs gb n c d p q (addRow ti src a M) S := by simpa using hw
        have l1 : wr.cell? ⟨A8, 1, none⟩ = some (.slice (some ⟨gb, oa1, none⟩) d d) := by rw [cell_of_row _ _ 1 _ _ _ ((hch.block A8 HN8.out.1 HN8.out.2).trans HB8.out)]; rfl
        have HWK := Lib.hid hw
        have HCK := Lib.hid hch
        have hc1 := hw.d1
        obtain ⟨wo, hwo⟩ : ∃ wo, wo = wr := ⟨_, rfl⟩
        subst hwo
        clear hw hch hlt hk hk0
        go_wp2_with fail
        go_loopw [25] (fun z wr => ∃ j : Nat, j ≤ d ∧ z = .int .i64 j ∧ Wk wr g gt gm ga gs gb n c d p q (addRow ti src a M) (addTo ti src a j S) ∧ Chg (WF gm ga gs gb) w3 wr) (fun z _ => d - (intOf z).toNat)
        case atStart => exact ⟨0, by omega, rfl, by rw [addTo_zero]; exact HWK.out, HCK.out⟩
        case round =>
          obtain ⟨j, hj, rfl, hwj, hcj⟩ := hrel
          by_cases hjl : j < d
          · have hx0 := hwj.s.cells ti hti j hjl
            have hy0 := hwj.s.cells src hsrc j hjl
            rw [addTo_at] at hx0
            rw [addTo_src a S hne] at hy0
            have k8 := (hcj.block A8 HN8.out.1 HN8.out.2).trans HB8.out
            have k9 := (hcj.block A9 HN9.out.1 HN9.out.2).trans HB9.out
            have h1 : wr.cell? ⟨A8, 1, none⟩ = some (.slice (some ⟨gb, oa1, none⟩) d d) := by rw [cell_of_row _ _ 1 _ _ _ k8]; rfl
            have h2 : wr.cell? ⟨A9, 1, none⟩ = some (.slice (some ⟨gb, ob1, none⟩) d d) := by rw [cell_of_row _ _ 1 _ _ _ k9]; rfl
            have h5 := hwj.c0
            rw [← HOA1.out] at hx0
            rw [← HOB1.out] at hy0
            obtain ⟨x, hx⟩ : ∃ x, x = S ti j := ⟨_, rfl⟩
            obtain ⟨y, hy⟩ : ∃ y, y = S src j := ⟨_, rfl⟩
            rw [← hx] at hx0
            rw [← hy] at hy0
            have h3 := hx0
            have h4 := hy0
            have bd : Below wr.heap.size wr wr.drew := ⟨rfl, rfl, rfl, Nat.le_refl _, fun _ _ => rfl⟩
            have htb : Tab wr.drew gt := (hwj.below bd).tab
            have hxx0 := u8_xor_all x (Gf.gm a y)
            obtain ⟨v, hv⟩ : ∃ v, v = x ^^^ Gf.gm a y := ⟨_, rfl⟩
            have hxx : bits .xor .u8 (x.toNat : Int) ((Gf.gm a y).toNat : Int) = (v.toNat : Int) := by rw [hv]; exact hxx0
            have hfin : ∀ w6, Drawn0 wr.drew w6 → Wk (w6.setCell ⟨gb, oa1 + j, none⟩ (.int .u8 (v.toNat : Int))) g gt gm ga gs gb n c d p q (addRow ti src a M) (addTo ti src a (j + 1) S) ∧ Chg (WF gm ga gs gb) w3 (w6.setCell ⟨gb, oa1 + j, none⟩ (.int .u8 (v.toNat : Int))) := fun w6 hd6 => by
              have hb6 := bd.trans hd6.below
              refine ⟨?_, (hcj.trans (Chg.of_below (F := WF gm ga gs gb) hb6) (fun _ hx => .inl hx)).trans (Chg.set (F := WF gm ga gs gb) (a := ⟨gb, oa1 + j, none⟩) (.inr (.inr (.inr rfl)))) (fun _ hx => .inl hx)⟩
              have := (hwj.below hb6).setS hti hjl v
              rw [← HOA1.out] at this
              exact this.congr (fun _ _ _ _ => rfl) (fun x' _ b' _ => by rw [hv, hx, hy]; exact (addTo_step a S x' b').symm)
            have hstay0 : ∀ w6, Drawn0 wr.drew w6 → w6.cell? ⟨A8, 1, none⟩ = some (.slice (some ⟨gb, oa1, none⟩) d d) ∧ w6.cell? ⟨A9, 1, none⟩ = some (.slice (some ⟨gb, ob1, none⟩) d d) ∧ w6.cell? ⟨gb, oa1 + j, none⟩ = some (.int .u8 (x.toNat : Int)) ∧ w6.cell? ⟨gb, ob1 + j, none⟩ = some (.int .u8 (y.toNat : Int)) ∧ w6.cell? ⟨g, 0, none⟩ = some (.pointer (some ⟨gt, 0, none⟩)) ∧ w6.frozen? ⟨gb, oa1 + j, none⟩ = false := fun w6 hd6 => by
              have hb6 := bd.trans hd6.below
              exact ⟨pw_cell_below hb6 h1, pw_cell_below hb6 h2, pw_cell_below hb6 h3, pw_cell_below hb6 h4, pw_cell_below hb6 h5, (hwj.below hb6).s.fa _⟩
            have hstay := Lib.hid hstay0
            have HFIN := Lib.hid hfin
            have i1 : (0 : Int) ≤ (j : Int) := by omega
            have i2 : (j : Int) < (d : Int) := by omega
            clear hstay0 hfin hwj hcj k8 k9 hx0 hy0 hx hy hv bd hxx0
            go_wp2
            refine start_ (n := 21) (S := fun w' => w'.cell? ⟨A8, 1, none⟩ = some (.slice (some ⟨gb, oa1, none⟩) d d) ∧ w'.cell? ⟨A9, 1, none⟩ = some (.slice (some ⟨gb, ob1, none⟩) d d) ∧ w'.cell? ⟨gb, oa1 + j, none⟩ = some (.int .u8 (x.toNat : Int)) ∧ w'.cell? ⟨gb, ob1 + j, none⟩ = some (.int .u8 (y.toNat : Int)) ∧ w'.cell? ⟨g, 0, none⟩ = some (.pointer (some ⟨gt, 0, none⟩))) (ds := [20]) #[false, false, false, false, false, false, false, false, false, false, false, false, false, false, false, false, false, false, false, false, false] (by kernel_rfl) rfl rfl ⟨h1, h2, h3, h4, h5⟩ (fun hHeld => ?_)
            refine pure_ (i := 0) (N := some 28) (v := ?_) (a' := ?_) #[true, false, false, false, false, false, false, false, false, false, false, false, false, false, false, false, false, false, false, false, false] rfl rfl (by kernel_rfl) (fun _ _ _ h => h) (Or.inl ⟨by rfl, ?_⟩) ?_ ?_
            rotate_left
            · intro w'
              go_simp
              with_reducible rfl
            rotate_left
            · simp only [Act.put, List.setIfInBounds_toArray, List.set_cons_zero, List.set_cons_succ, i64_w, i32_w]
              rfl
            refine pure_ (i := 1) (N := some 29) (v := ?_) (a' := ?_) #[true, true, false, false, false, false, false, false, false, false, false, false, false, false, false, false, false, false, false, false, false] rfl rfl (by kernel_rfl) (fun _ _ _ h => h) (Or.inl ⟨by rfl, ?_⟩) ?_ ?_
            rotate_left
            · intro w'
              go_simp
              with_reducible rfl
            rotate_left
            · simp only [Act.put, List.setIfInBounds_toArray, List.set_cons_zero, List.set_cons_succ, i64_w, i32_w]
              rfl
            refine pure_ (i := 3) (N := some 31) (v := ?_) (a' := ?_) #[true, true, false, true, false, false, false, false, false, false, false, false, false, false, false, false, false, false, false, false, false] rfl rfl (by kernel_rfl) (fun _ _ _ h => h) (Or.inl ⟨by rfl, ?_⟩) ?_ ?_
            rotate_left
            · intro w'
              go_simp
              with_reducible rfl
            rotate_left
            · simp only [Act.put, List.setIfInBounds_toArray, List.set_cons_zero, List.set_cons_succ, i64_w, i32_w]
              rfl
            refine pure_ (i := 6) (N := some 34) (v := ?_) (a' := ?_) #[true, true, false, true, false, false, true, false, false, false, false, false, false, false, false, false, false, false, false, false, false] rfl rfl (by kernel_rfl) (fun _ _ _ h => h) (Or.inl ⟨by rfl, ?_⟩) ?_ ?_
            rotate_left
            · intro w'
              go_simp
              with_reducible rfl
            rotate_left
            · simp only [Act.put, List.setIfInBounds_toArray, List.set_cons_zero, List.set_cons_succ, i64_w, i32_w]
              rfl
            refine pure_ (i := 7) (N := some 35) (v := ?_) (a' := ?_) #[true, true, false, true, false, false, true, true, false, false, false, false, false, false, false, false, false, false, false, false, false] rfl rfl (by kernel_rfl) (fun _ _ _ h => h) (Or.inl ⟨by rfl, ?_⟩) ?_ ?_
            rotate_left
            · intro w'
              go_simp
              with_reducible rfl
            rotate_left
            · simp only [Act.put, List.setIfInBounds_toArray, List.set_cons_zero, List.set_cons_succ, i64_w, i32_w]
              rfl
            refine pure_ (i := 8) (N := some 36) (v := ?_) (a' := ?_) #[true, true, false, true, false, false, true, true, true, false, false, false, false, false, false, false, false, false, false, false, false] rfl rfl (by kernel_rfl) (fun _ _ _ h => h) (Or.inl ⟨by rfl, ?_⟩) ?_ ?_
            rotate_left
            · intro w'
              go_simp
              with_reducible rfl
            rotate_left
            · simp only [Act.put, List.setIfInBounds_toArray, List.set_cons_zero, List.set_cons_succ, i64_w, i32_w]
              rfl
            refine pure_ (i := 10) (N := some 38) (v := ?_) (a' := ?_) #[true, true, false, true, false, false, true, true, true, false, true, false, false, false, false, false, false, false, false, false, false] rfl rfl (by kernel_rfl) (fun _ _ _ h => h) (Or.inl ⟨by rfl, ?_⟩) ?_ ?_
            rotate_left
            · intro w'
              go_simp
              with_reducible rfl
            rotate_left
            · simp only [Act.put, List.setIfInBounds_toArray, List.set_cons_zero, List.set_cons_succ, i64_w, i32_w]
              rfl
            refine pure_ (i := 11) (N := some 39) (v := ?_) (a' := ?_) #[true, true, false, true, false, false, true, true, true, false, true, true, false, false, false, false, false, false, false, false, false] rfl rfl (by kernel_rfl) (fun _ _ _ h => h) (Or.inl ⟨by rfl, ?_⟩) ?_ ?_
            rotate_left
            · intro w'
              go_simp
              with_reducible rfl
            rotate_left
            · simp only [Act.put, List.setIfInBounds_toArray, List.set_cons_zero, List.set_cons_succ, i64_w, i32_w]
              rfl
            refine pure_ (i := 12) (N := some 40) (v := ?_) (a' := ?_) #[true, true, false, true, false, false, true, true, true, false, true, true, true, false, false, false, false, false, false, false, false] rfl rfl (by kernel_rfl) (fun _ _ _ h => h) (Or.inl ⟨by rfl, ?_⟩) ?_ ?_
            rotate_left
            · intro w'
              go_simp
              with_reducible rfl
            rotate_left
            · simp only [Act.put, List.setIfInBounds_toArray, List.set_cons_zero, List.set_cons_succ, i64_w, i32_w]
              rfl
            refine pure_ (i := 14) (N := some 42) (v := ?_) (a' := ?_) #[true, true, false, true, false, false, true, true, true, false, true, true, true, false, true, false, false, false, false, false, false] rfl rfl (by kernel_rfl) (fun _ _ _ h => h) (Or.inl ⟨by rfl, ?_⟩) ?_ ?_
            rotate_left
            · intro w'
              go_simp
              with_reducible rfl
            rotate_left
            · simp only [Act.put, List.setIfInBounds_toArray, List.set_cons_zero, List.set_cons_succ, i64_w, i32_w]
              rfl
            refine take_ (i := 2) (N := some 30) (v := ?_) (a' := ?_) #[true, true, true, true, false, false, true, true, true, false, true, true, true, false, true, false, false, false, false, false, false] rfl rfl (by kernel_rfl) (fun _ _ _ h => h) (Or.inl ⟨by rfl, ?_⟩) hHeld ?_ ?_
            rotate_left
            · rintro w' ⟨s0, s1, s2, s3, s4⟩
              go_simp
              with_reducible rfl
            rotate_left
            · simp only [Act.put, List.setIfInBounds_toArray, List.set_cons_zero, List.set_cons_succ, i64_w, i32_w]
              rfl
            refine pure_ (i := 4) (N := some 32) (v := ?_) (a' := ?_) #[true, true, true, true, true, false, true, true, true, false, true, true, true, false, true, false, false, false, false, false, false] rfl rfl (by kernel_rfl) (fun _ _ _ h => h) (Or.inl ⟨by rfl, ?_⟩) ?_ ?_
            rotate_left
            · intro w'
              go_simp
              with_reducible rfl
            rotate_left
            · simp only [Act.put, List.setIfInBounds_toArray, List.set_cons_zero, List.set_cons_succ, i64_w, i32_w]
              rfl
            refine take_ (i := 5) (N := some 33) (v := ?_) (a' := ?_) #[true, true, true, true, true, true, true, true, true, false, true, true, true, false, true, false, false, false, false, false, false] rfl rfl (by kernel_rfl) (fun _ _ _ h => h) (Or.inl ⟨by rfl, ?_⟩) hHeld ?_ ?_
            rotate_left
            · rintro w' ⟨s0, s1, s2, s3, s4⟩
              go_simp
              with_reducible rfl
            rotate_left
            · simp only [Act.put, List.setIfInBounds_toArray, List.set_cons_zero, List.set_cons_succ, i64_w, i32_w]
              rfl
            refine take_ (i := 9) (N := some 37) (v := ?_) (a' := ?_) #[true, true, true, true, true, true, true, true, true, true, true, true, true, false, true, false, false, false, false, false, false] rfl rfl (by kernel_rfl) (fun _ _ _ h => h) (Or.inl ⟨by rfl, ?_⟩) hHeld ?_ ?_
            rotate_left
            · rintro w' ⟨s0, s1, s2, s3, s4⟩
              go_simp
              with_reducible rfl
            rotate_left
            · simp only [Act.put, List.setIfInBounds_toArray, List.set_cons_zero, List.set_cons_succ, i64_w, i32_w]
              rfl
            refine take_ (i := 13) (N := some 41) (v := ?_) (a' := ?_) #[true, true, true, true, true, true, true, true, true, true, true, true, true, true, true, false, false, false, false, false, false] rfl rfl (by kernel_rfl) (fun _ _ _ h => h) (Or.inl ⟨by rfl, ?_⟩) hHeld ?_ ?_
            rotate_left
            · rintro w' ⟨s0, s1, s2, s3, s4⟩
              go_simp
              with_reducible rfl
            rotate_left
            · simp only [Act.put, List.setIfInBounds_toArray, List.set_cons_zero, List.set_cons_succ, i64_w, i32_w]
              rfl
            refine pure_ (i := 15) (N := some 43) (v := ?_) (a' := ?_) #[true, true, true, true, true, true, true, true, true, true, true, true, true, true, true, true, false, false, false, false, false] rfl rfl (by kernel_rfl) (fun _ _ _ h => h) (Or.inl ⟨by rfl, ?_⟩) ?_ ?_
            rotate_left
            · intro w'
              go_simp
              with_reducible rfl
            rotate_left
            · simp only [Act.put, List.setIfInBounds_toArray, List.set_cons_zero, List.set_cons_succ, i64_w, i32_w]
              rfl
            refine take_ (i := 16) (N := some 44) (v := ?_) (a' := ?_) #[true, true, true, true, true, true, true, true, true, true, true, true, true, true, true, true, true, false, false, false, false] rfl rfl (by kernel_rfl) (fun _ _ _ h => h) (Or.inl ⟨by rfl, ?_⟩) hHeld ?_ ?_
            rotate_left
            · rintro w' ⟨s0, s1, s2, s3, s4⟩
              go_simp
              with_reducible rfl
            rotate_left
            · simp only [Act.put, List.setIfInBounds_toArray, List.set_cons_zero, List.set_cons_succ, i64_w, i32_w]
              rfl
            refine one_ (i := 17) (N := some 45) #[true, true, true, true, true, true, true, true, true, true, true, true, true, true, true, true, true, true, false, false, false] rfl rfl (by kernel_rfl) (by decide) (fun K hK => ?_)
            refine goes_ Try.func24 (by kernel_rfl) rfl #[.pointer (some ⟨gt, 0, none⟩), .int .u8 (a.toNat : Int), .int .u8 (y.toNat : Int)] (by rfl) rfl rfl (by simp only [List.map_toArray, List.map_cons, List.map_nil]; rfl) ?_
            with_reducible refine ((mul_calls gt a y _ htb)).mono ?_
            rintro e w6 ⟨rfl, hdr⟩
            refine ⟨_, rfl, ?_⟩
            obtain ⟨f1, f2, f3, f4, f5, f6⟩ := hstay.out w6 hdr
            have HF7 := Lib.hid (HFIN.out w6 hdr)
            refine hK.out _ _ ⟨f1, f2, f3, f4, f5⟩ (fun hHeld => ?_)
            clear hK K
            refine norm_ (a' := ?_) ?_ ?_
            rotate_left
            · show Act.put _ (some 45) _ = _
              simp only [Act.put, List.setIfInBounds_toArray, List.set_cons_zero, List.set_cons_succ, i64_w, i32_w]
              rfl
            refine pure_ (i := 18) (N := some 46) (v := ?_) (a' := ?_) #[true, true, true, true, true, true, true, true, true, true, true, true, true, true, true, true, true, true, true, false, false] rfl rfl (by kernel_rfl) (fun _ _ _ h => h) (Or.inl ⟨by rfl, ?_⟩) ?_ ?_
            rotate_left
            · intro w'
              go_simp
              with_reducible rfl
            rotate_left
            · simp only [Act.put, List.setIfInBounds_toArray, List.set_cons_zero, List.set_cons_succ, i64_w, i32_w]
              rfl
            refine pure_ (i := 19) (N := some 47) (v := ?_) (a' := ?_) #[true, true, true, true, true, true, true, true, true, true, true, true, true, true, true, true, true, true, true, true, false] rfl rfl (by kernel_rfl) (fun _ _ _ h => h) (Or.inl ⟨by rfl, ?_⟩) ?_ ?_
            rotate_left
            · intro w'
              go_simp
              with_reducible rfl
            rotate_left
            · simp only [Act.put, List.setIfInBounds_toArray, List.set_cons_zero, List.set_cons_succ, i64_w, i32_w]
              rfl
            refine last_ (i := 20) (N := none) #[true, true, true, true, true, true, true, true, true, true, true, true, true, true, true, true, true, true, true, true, true] rfl rfl (by kernel_rfl) (by decide) (fun K hK => ?_)
            refine skip_ (w1 := ?_) (by rfl) rfl ?_ ?_
            rotate_left
            · go_simp
              rfl
            refine hK.out _ _ ?_
            clear hK K
            refine done_ (by kernel_rfl) ?_
            go_wp2
            exact ⟨⟨j + 1, by omega, by go_num, HF7.out.1, HF7.out.2⟩, by simp [intOf]; omega⟩
          · obtain rfl : d = j := by omega
            have hdone : Wk wr g gt gm ga gs gb n c d p q (addRow ti src a M) (addRow ti src a S) := hwj.congr (fun _ _ _ _ => rfl) (fun x' _ b' hb' => addTo_done a S x' b' hb')
            have HD := Lib.hid hdone
            have HCD := Lib.hid hcj
            clear hwj hcj hdone
            go_wp2_with fail
            exact ⟨⟨1 + 1, by omega, by go_num, by simpa using HD.out, HCD.out⟩, by simp [intOf]⟩
    · obtain rfl : k = 2 := by omega
      have hw : Wk wr g gt gm ga gs gb n c d p q (addRow ti src a M) (addRow ti src a S) := by simpa using hw
      have hch2 : Chg (WF gm ga gs gb) w wr := (Chg.of_below (F := WF gm ga gs gb) HB3.out).trans hch (fun _ hx => .inl hx)
      have HW := Lib.hid hw
      have HCH := Lib.hid hch2
      clear hw hch hch2 hlt hk
      go_wp2_with fail
      go_end0
      exact ⟨rfl, HW.out, HCH.out⟩
end Go.Proofs.Ytoijjlpkoniipaa
end
section
/- Matrices: clear. -/
namespace Go.Proofs.Ytoijjlpkoniipaa
open Go.RowKit Go.Proofs.YtoijjlpkoniipaaW.PrintWords Go.Proofs.YtoijjlpkoniipaaW.PrintLast Gf Lin
set_option linter.unusedSimpArgs false
/-- What clear leaves. -/
def ClrPost (w : World) (g gt gm ga gs gb n c d : Nat) (M S : Lin.M) (row col : Nat) (b : Bool) (w' : World) : Prop :=
  ∃ p' q' M' S', Wk w' g gt gm ga gs gb n c d p' q' M' S' ∧ Chg (WF gm ga gs gb) w w' ∧
    ((b = false ∧ M' = M ∧ S' = S ∧ ∀ a, row ≤ a → a < n → M a col = 0) ∨ (b = true ∧ ∃ at_, row ≤ at_ ∧ at_ < n ∧ M at_ col ≠ 0 ∧ M' = Lin.clr n row at_ col M M ∧ S' = Lin.clr n row at_ col M S))
set_option maxHeartbeats 4000000 in
set_option maxRecDepth 100000 in
theorem clear_calls {w : World} {g gt gm ga gs gb n c d : Nat} {p q : Nat → Nat} {M S : Lin.M} (h : Wk w g gt gm ga gs gb n c d p q M S) {row col : Nat} (hr : row < n) (hc : col < c) :
    Calls Try.prog 71 #[.pointer (some ⟨g, 0, none⟩), .int .i64 (row : Int), .int .i64 (col : Int)] w fun e w' => ∃ b, e = .returned (.bool b) ∧ ClrPost w g gt gm ga gs gb n c d M S row col b w' := by
  have H := Lib.hid h
  have n2 : n ≤ 255 := h.n1.2
  have c2 : c ≤ 255 := h.c1.2
  have c1 := h.c1'
  clear h
  go_enter Try.func71, Try.ntmps71
  go_wp2_with fail
  go_loopw [7] (fun x wr => ∃ t : Nat, row ≤ t ∧ t ≤ n ∧ x = .int .i64 t ∧ wr = w ∧ ∀ a, row ≤ a → a < t → M a col = 0) (fun x _ => n - (intOf x).toNat)
  case atStart => exact ⟨row, Nat.le_refl _, by omega, rfl, rfl, fun a h1 h2 => by omega⟩
  case round =>
    obtain ⟨t, ht1, ht2, rfl, rfl, hz⟩ := hrel
    by_cases hlt : t < n
    · have a1 := H.out.m.rows t hlt
      have a2 := H.out.m.cells t hlt col hc
      obtain ⟨o, ho⟩ : ∃ o, o = p t * c := ⟨_, rfl⟩
      rw [← ho] at a1 a2
      have i1 : (0 : Int) ≤ (t : Int) := by omega
      have i2 : (t : Int) < (n : Int) := by omega
      have i3 : (0 : Int) ≤ (col : Int) := by omega
      have i4 : (col : Int) < (c : Int) := by omega
      have HO := Lib.hid ho
      have HZ := Lib.hid hz
      clear ho hz
      by_cases hx : M t col = 0
      · have tb := b_zero hx
        have HX := Lib.hid hx
        clear hx
        go_wp2_with fail
        exact ⟨⟨t + 1, by omega, by omega, by go_num, trivial, fun a h1 h2 => by
          by_cases hat : a = t
          · rw [hat]; exact HX.out
          · exact HZ.out a h1 (by omega)⟩, by simp [intOf]; omega⟩
      · have tb := b_ne_zero hx
        have t3 : ((t : Int) == (n : Int)) = false := by simp; omega
        have hsw := swap_calls H.out hr hlt
        have HX := Lib.hid hx
        clear hx
        go_wp2_with fail
        refine hsw.mono ?_
        clear hsw
        rintro e w1 ⟨rfl, hw1, hch1⟩
        clear a1 a2 tb t3 c1 HO
        obtain ⟨o, ho⟩ : ∃ o, o = swp row t p row * c := ⟨_, rfl⟩
        obtain ⟨x, hx⟩ : ∃ x, x = M t col := ⟨_, rfl⟩
        have hx0 : x ≠ 0 := by rw [hx]; exact HX.out
        have h1 := hw1.c0
        have h2 := hw1.c1'
        have h3 := hw1.m.rows row hr
        have h4 := hw1.m.cells row hr col hc
        rw [show swapRow row t M row col = x by rw [hx]; unfold swapRow; rw [if_pos rfl], ← ho] at h4
        rw [← ho] at h3
        have bd : Below w1.heap.size w1 w1.drew := ⟨rfl, rfl, rfl, Nat.le_refl _, fun _ _ => rfl⟩
        have htb : Tab w1.drew gt := (hw1.below bd).tab
        have hstay0 : ∀ w6, Drawn0 w1.drew w6 → w6.cell? ⟨g, 0, none⟩ = some (.pointer (some ⟨gt, 0, none⟩)) ∧ w6.cell? ⟨g, 1, none⟩ = some (.slice (some ⟨gm, 0, none⟩) n n) ∧ w6.cell? ⟨gm, row, none⟩ = some (.slice (some ⟨ga, o, none⟩) c c) ∧ w6.cell? ⟨ga, o + col, none⟩ = some (.int .u8 (x.toNat : Int)) := fun w6 hd6 => by
          have hb6 := bd.trans hd6.below
          exact ⟨pw_cell_below hb6 h1, pw_cell_below hb6 h2, pw_cell_below hb6 h3, pw_cell_below hb6 h4⟩
        have hstay := Lib.hid hstay0
        have HW1 := Lib.hid hw1
        have HC1 := Lib.hid hch1
        have HXX := Lib.hid hx
        have j1 : (0 : Int) ≤ (row : Int) := by omega
        have j2 : (row : Int) < (n : Int) := by omega
        clear hstay0 hw1 hch1 hx ho
        go_wp2
        refine start_ (n := 20) (S := fun w' => w'.cell? ⟨g, 0, none⟩ = some (.pointer (some ⟨gt, 0, none⟩)) ∧ w'.cell? ⟨g, 1, none⟩ = some (.slice (some ⟨gm, 0, none⟩) n n) ∧ w'.cell? ⟨gm, row, none⟩ = some (.slice (some ⟨ga, o, none⟩) c c) ∧ w'.cell? ⟨ga, o + col, none⟩ = some (.int .u8 (x.toNat : Int))) (ds := []) #[false, false, false, false, false, false, false, false, false, false, false, false, false, false, false, false, false, false, false, false] (by kernel_rfl) rfl rfl ⟨h1, h2, h3, h4⟩ (fun hHeld => ?_)
        refine pure_ (i := 0) (N := some 46) (v := ?_) (a' := ?_) #[true, false, false, false, false, false, false, false, false, false, false, false, false, false, false, false, false, false, false, false] rfl rfl (by kernel_rfl) (fun _ _ _ h => h) (Or.inl ⟨by rfl, ?_⟩) ?_ ?_
        rotate_left
        · intro w'
          go_simp
          with_reducible rfl
        rotate_left
        · simp only [Act.put, List.setIfInBounds_toArray, List.set_cons_zero, List.set_cons_succ, i64_w, i32_w]
          rfl
        refine pure_ (i := 1) (N := some 47) (v := ?_) (a' := ?_) #[true, true, false, false, false, false, false, false, false, false, false, false, false, false, false, false, false, false, false, false] rfl rfl (by kernel_rfl) (fun _ _ _ h => h) (Or.inl ⟨by rfl, ?_⟩) ?_ ?_
        rotate_left
        · intro w'
          go_simp
          with_reducible rfl
        rotate_left
        · simp only [Act.put, List.setIfInBounds_toArray, List.set_cons_zero, List.set_cons_succ, i64_w, i32_w]
          rfl
        refine pure_ (i := 2) (N := some 48) (v := ?_) (a' := ?_) #[true, true, true, false, false, false, false, false, false, false, false, false, false, false, false, false, false, false, false, false] rfl rfl (by kernel_rfl) (fun _ _ _ h => h) (Or.inl ⟨by rfl, ?_⟩) ?_ ?_
        rotate_left
        · intro w'
          go_simp
          with_reducible rfl
        rotate_left
        · simp only [Act.put, List.setIfInBounds_toArray, List.set_cons_zero, List.set_cons_succ, i64_w, i32_w]
          rfl
        refine pure_ (i := 4) (N := some 50) (v := ?_) (a' := ?_) #[true, true, true, false, true, false, false, false, false, false, false, false, false, false, false, false, false, false, false, false] rfl rfl (by kernel_rfl) (fun _ _ _ h => h) (Or.inl ⟨by rfl, ?_⟩) ?_ ?_
        rotate_left
        · intro w'
          go_simp
          with_reducible rfl
        rotate_left
        · simp only [Act.put, List.setIfInBounds_toArray, List.set_cons_zero, List.set_cons_succ, i64_w, i32_w]
          rfl
        refine pure_ (i := 5) (N := some 51) (v := ?_) (a' := ?_) #[true, true, true, false, true, true, false, false, false, false, false, false, false, false, false, false, false, false, false, false] rfl rfl (by kernel_rfl) (fun _ _ _ h => h) (Or.inl ⟨by rfl, ?_⟩) ?_ ?_
        rotate_left
        · intro w'
          go_simp
          with_reducible rfl
        rotate_left
        · simp only [Act.put, List.setIfInBounds_toArray, List.set_cons_zero, List.set_cons_succ, i64_w, i32_w]
          rfl
        refine pure_ (i := 6) (N := some 52) (v := ?_) (a' := ?_) #[true, true, true, false, true, true, true, false, false, false, false, false, false, false, false, false, false, false, false, false] rfl rfl (by kernel_rfl) (fun _ _ _ h => h) (Or.inl ⟨by rfl, ?_⟩) ?_ ?_
        rotate_left
        · intro w'
          go_simp
          with_reducible rfl
        rotate_left
        · simp only [Act.put, List.setIfInBounds_toArray, List.set_cons_zero, List.set_cons_succ, i64_w, i32_w]
          rfl
        refine pure_ (i := 8) (N := some 54) (v := ?_) (a' := ?_) #[true, true, true, false, true, true, true, false, true, false, false, false, false, false, false, false, false, false, false, false] rfl rfl (by kernel_rfl) (fun _ _ _ h => h) (Or.inl ⟨by rfl, ?_⟩) ?_ ?_
        rotate_left
        · intro w'
          go_simp
          with_reducible rfl
        rotate_left
        · simp only [Act.put, List.setIfInBounds_toArray, List.set_cons_zero, List.set_cons_succ, i64_w, i32_w]
          rfl
        refine pure_ (i := 11) (N := some 57) (v := ?_) (a' := ?_) #[true, true, true, false, true, true, true, false, true, false, false, true, false, false, false, false, false, false, false, false] rfl rfl (by kernel_rfl) (fun _ _ _ h => h) (Or.inl ⟨by rfl, ?_⟩) ?_ ?_
        rotate_left
        · intro w'
          go_simp
          with_reducible rfl
        rotate_left
        · simp only [Act.put, List.setIfInBounds_toArray, List.set_cons_zero, List.set_cons_succ, i64_w, i32_w]
          rfl
        refine take_ (i := 3) (N := some 49) (v := ?_) (a' := ?_) #[true, true, true, true, true, true, true, false, true, false, false, true, false, false, false, false, false, false, false, false] rfl rfl (by kernel_rfl) (fun _ _ _ h => h) (Or.inl ⟨by rfl, ?_⟩) hHeld ?_ ?_
        rotate_left
        · rintro w' ⟨s0, s1, s2, s3⟩
          go_simp
          with_reducible rfl
        rotate_left
        · simp only [Act.put, List.setIfInBounds_toArray, List.set_cons_zero, List.set_cons_succ, i64_w, i32_w]
          rfl
        refine take_ (i := 7) (N := some 53) (v := ?_) (a' := ?_) #[true, true, true, true, true, true, true, true, true, false, false, true, false, false, false, false, false, false, false, false] rfl rfl (by kernel_rfl) (fun _ _ _ h => h) (Or.inl ⟨by rfl, ?_⟩) hHeld ?_ ?_
        rotate_left
        · rintro w' ⟨s0, s1, s2, s3⟩
          go_simp
          with_reducible rfl
        rotate_left
        · simp only [Act.put, List.setIfInBounds_toArray, List.set_cons_zero, List.set_cons_succ, i64_w, i32_w]
          rfl
        refine pure_ (i := 9) (N := some 55) (v := ?_) (a' := ?_) #[true, true, true, true, true, true, true, true, true, true, false, true, false, false, false, false, false, false, false, false] rfl rfl (by kernel_rfl) (fun _ _ _ h => h) (Or.inl ⟨by rfl, ?_⟩) ?_ ?_
        rotate_left
        · intro w'
          go_simp
          with_reducible rfl
        rotate_left
        · simp only [Act.put, List.setIfInBounds_toArray, List.set_cons_zero, List.set_cons_succ, i64_w, i32_w]
          rfl
        refine take_ (i := 10) (N := some 56) (v := ?_) (a' := ?_) #[true, true, true, true, true, true, true, true, true, true, true, true, false, false, false, false, false, false, false, false] rfl rfl (by kernel_rfl) (fun _ _ _ h => h) (Or.inl ⟨by rfl, ?_⟩) hHeld ?_ ?_
        rotate_left
        · rintro w' ⟨s0, s1, s2, s3⟩
          go_simp
          with_reducible rfl
        rotate_left
        · simp only [Act.put, List.setIfInBounds_toArray, List.set_cons_zero, List.set_cons_succ, i64_w, i32_w]
          rfl
        refine pure_ (i := 12) (N := some 58) (v := ?_) (a' := ?_) #[true, true, true, true, true, true, true, true, true, true, true, true, true, false, false, false, false, false, false, false] rfl rfl (by kernel_rfl) (fun _ _ _ h => h) (Or.inl ⟨by rfl, ?_⟩) ?_ ?_
        rotate_left
        · intro w'
          go_simp
          with_reducible rfl
        rotate_left
        · simp only [Act.put, List.setIfInBounds_toArray, List.set_cons_zero, List.set_cons_succ, i64_w, i32_w]
          rfl
        refine take_ (i := 13) (N := some 59) (v := ?_) (a' := ?_) #[true, true, true, true, true, true, true, true, true, true, true, true, true, true, false, false, false, false, false, false] rfl rfl (by kernel_rfl) (fun _ _ _ h => h) (Or.inl ⟨by rfl, ?_⟩) hHeld ?_ ?_
        rotate_left
        · rintro w' ⟨s0, s1, s2, s3⟩
          go_simp
          with_reducible rfl
        rotate_left
        · simp only [Act.put, List.setIfInBounds_toArray, List.set_cons_zero, List.set_cons_succ, i64_w, i32_w]
          rfl
        refine one_ (i := 14) (N := some 60) #[true, true, true, true, true, true, true, true, true, true, true, true, true, true, true, false, false, false, false, false] rfl rfl (by kernel_rfl) (by decide) (fun K hK => ?_)
        refine goes_ Try.func27 (by kernel_rfl) rfl #[.pointer (some ⟨gt, 0, none⟩), .int .u8 (x.toNat : Int)] (by rfl) rfl rfl (by simp only [List.map_toArray, List.map_cons, List.map_nil]; rfl) ?_
        with_reducible refine ((inv_calls gt x _ htb hx0)).mono ?_
        rintro e w6 ⟨rfl, hdr⟩
        refine ⟨_, rfl, ?_⟩
        obtain ⟨f1, f2, f3, f4⟩ := hstay.out w6 hdr
        refine hK.out _ _ ⟨f1, f2, f3, f4⟩ (fun hHeld => ?_)
        clear hK K
        refine norm_ (a' := ?_) ?_ ?_
        rotate_left
        · show Act.put _ (some 60) _ = _
          simp only [Act.put, List.setIfInBounds_toArray, List.set_cons_zero, List.set_cons_succ, i64_w, i32_w]
          rfl
        refine pure_ (i := 15) (N := some 45) (v := ?_) (a' := ?_) #[true, true, true, true, true, true, true, true, true, true, true, true, true, true, true, true, false, false, false, false] rfl rfl (by kernel_rfl) (fun _ _ _ h => h) (Or.inl ⟨by rfl, ?_⟩) ?_ ?_
        rotate_left
        · intro w'
          go_simp
          with_reducible rfl
        rotate_left
        · simp only [Act.put, List.setIfInBounds_toArray, List.set_cons_zero, List.set_cons_succ, i64_w, i32_w]
          rfl
        refine pure_ (i := 16) (N := some 61) (v := ?_) (a' := ?_) #[true, true, true, true, true, true, true, true, true, true, true, true, true, true, true, true, true, false, false, false] rfl rfl (by kernel_rfl) (fun _ _ _ h => h) (Or.inl ⟨by rfl, ?_⟩) ?_ ?_
        rotate_left
        · intro w'
          go_simp
          with_reducible rfl
        rotate_left
        · simp only [Act.put, List.setIfInBounds_toArray, List.set_cons_zero, List.set_cons_succ, i64_w, i32_w]
          rfl
        refine pure_ (i := 17) (N := some 62) (v := ?_) (a' := ?_) #[true, true, true, true, true, true, true, true, true, true, true, true, true, true, true, true, true, true, false, false] rfl rfl (by kernel_rfl) (fun _ _ _ h => h) (Or.inl ⟨by rfl, ?_⟩) ?_ ?_
        rotate_left
        · intro w'
          go_simp
          with_reducible rfl
        rotate_left
        · simp only [Act.put, List.setIfInBounds_toArray, List.set_cons_zero, List.set_cons_succ, i64_w, i32_w]
          rfl
        refine pure_ (i := 18) (N := some 8) (v := ?_) (a' := ?_) #[true, true, true, true, true, true, true, true, true, true, true, true, true, true, true, true, true, true, true, false] rfl rfl (by kernel_rfl) (fun _ _ _ h => h) (Or.inl ⟨by rfl, ?_⟩) ?_ ?_
        rotate_left
        · intro w'
          go_simp
          with_reducible rfl
        rotate_left
        · simp only [Act.put, List.setIfInBounds_toArray, List.set_cons_zero, List.set_cons_succ, i64_w, i32_w]
          rfl
        refine pure_ (i := 19) (N := some 9) (v := ?_) (a' := ?_) #[true, true, true, true, true, true, true, true, true, true, true, true, true, true, true, true, true, true, true, true] rfl rfl (by kernel_rfl) (fun _ _ _ h => h) (Or.inl ⟨by rfl, ?_⟩) ?_ ?_
        rotate_left
        · intro w'
          go_simp
          with_reducible rfl
        rotate_left
        · simp only [Act.put, List.setIfInBounds_toArray, List.set_cons_zero, List.set_cons_succ, i64_w, i32_w]
          rfl
        refine done_ (by kernel_rfl) ?_
        have hw6 := (HW1.out.below bd).below hdr.below
        have hch6 : Chg (WF gm ga gs gb) wr w6 := HC1.out.trans (Chg.of_below (F := WF gm ga gs gb) (bd.trans hdr.below)) (fun _ hx => .inl hx)
        have hsc := wscale_calls hw6 hr (gi x)
        have HC6 := Lib.hid hch6
        clear hw6 hch6 hdr bd htb h1 h2 h3 h4 f1 f2 f3 f4 hHeld
        go_wp2_with fail
        refine hsc.mono ?_
        clear hsc
        rintro e w7 ⟨rfl, hw7, hch7⟩
        have hch8 := HC6.out.trans hch7 (fun _ hx => .inl hx)
        have hw8 : Wk w7 g gt gm ga gs gb n c d (swp row t p) (swp row t q) (Lin.part row 0 (fun a => Lin.pre row t col M M a col) (Lin.pre row t col M M)) (Lin.part row 0 (fun a => Lin.pre row t col M M a col) (Lin.pre row t col M S)) := by
          rw [part_zero, part_zero]
          unfold Lin.pre
          rw [← HXX.out]
          exact hw7
        have k1 := hw8.c1'
        have HW8 := Lib.hid hw8
        have HC8 := Lib.hid hch8
        clear hw7 hch7 hw8 hch8
        go_wp2_with fail
        obtain ⟨W, hW⟩ : ∃ W, W = (fun a => Lin.pre row t col M M a col) := ⟨_, rfl⟩
        obtain ⟨M1, hM1⟩ : ∃ M1, M1 = Lin.pre row t col M M := ⟨_, rfl⟩
        obtain ⟨S1, hS1⟩ : ∃ S1, S1 = Lin.pre row t col M S := ⟨_, rfl⟩
        obtain ⟨p1, hp1⟩ : ∃ p1, p1 = swp row t p := ⟨_, rfl⟩
        obtain ⟨q1, hq1⟩ : ∃ q1, q1 = swp row t q := ⟨_, rfl⟩
        rw [← hW, ← hM1, ← hS1, ← hp1, ← hq1] at HW8
        have hWM : ∀ a, W a = M1 a col := fun a => by rw [hW, hM1]
        have HWM := Lib.hid hWM
        have HF : Hid (Lin.part row n W M1 = Lin.clr n row t col M M ∧ Lin.part row n W S1 = Lin.clr n row t col M S) := Lib.hid ⟨by rw [hW, hM1]; rfl, by rw [hW, hS1]; rfl⟩
        clear hW hM1 hS1 hp1 hq1 hWM k1
        obtain ⟨wo, hwo⟩ : ∃ wo, wo = wr := ⟨_, rfl⟩
        subst hwo
        go_loopw [72] (fun z wr => ∃ i : Nat, i ≤ n ∧ z = .int .i64 i ∧ Wk wr g gt gm ga gs gb n c d p1 q1 (Lin.part row i W M1) (Lin.part row i W S1) ∧ Chg (WF gm ga gs gb) wo wr) (fun z _ => n - (intOf z).toNat)
        case atStart => exact ⟨0, by omega, rfl, HW8.out, HC8.out⟩
        case round =>
          obtain ⟨i, hi, rfl, hwi, hci⟩ := hrel
          by_cases hin : i < n
          · have l1 : (0 : Int) ≤ (i : Int) := by omega
            have l2 : (i : Int) < (n : Int) := by omega
            by_cases hir : i = row
            · have tn : ((i : Int) != (row : Int)) = false := by simp [hir]
              rw [show Lin.part row i W M1 = Lin.part row (i + 1) W M1 by rw [hir, part_succ_row], show Lin.part row i W S1 = Lin.part row (i + 1) W S1 by rw [hir, part_succ_row]] at hwi
              have HWI := Lib.hid hwi
              have HCI := Lib.hid hci
              clear hwi hci hir
              go_wp2_with fail
              exact ⟨⟨i + 1, by omega, by go_num, HWI.out, HCI.out⟩, by simp [intOf]; omega⟩
            · have tn : ((i : Int) != (row : Int)) = true := by simp; omega
              have m1 := hwi.c1'
              have m2 := hwi.m.rows i hin
              have m3 := hwi.m.cells i hin col hc
              rw [part_from row i W M1 (Nat.le_refl _), ← HWM.out] at m3
              have had := wadd_calls hwi hin hr hir (W i)
              rw [← part_succ hir, ← part_succ hir] at had
              obtain ⟨o3, ho3⟩ : ∃ o3, o3 = p1 i * c := ⟨_, rfl⟩
              rw [← ho3] at m2 m3
              have HCI := Lib.hid hci
              have HIR := Lib.hid hir
              clear hwi hci hir ho3
              go_wp2_with fail
              refine had.mono ?_
              clear had
              rintro e w9 ⟨rfl, hw9, hch9⟩
              have hc9 := HCI.out.trans hch9 (fun _ hx => .inl hx)
              have HW9 := Lib.hid hw9
              have HC9 := Lib.hid hc9
              clear hw9 hch9 hc9 m1 m2 m3
              go_wp2_with fail
              exact ⟨⟨i + 1, by omega, by go_num, HW9.out, HC9.out⟩, by simp [intOf]; omega⟩
          · obtain rfl : n = i := by omega
            rw [HF.out.1, HF.out.2] at hwi
            have HWI := Lib.hid hwi
            have HCI := Lib.hid hci
            clear hwi hci
            go_wp2_with fail
            go_ret
            exact ⟨true, rfl, p1, q1, _, _, HWI.out, HCI.out, .inr ⟨rfl, t, ht1, hlt, HX.out, rfl, rfl⟩⟩
    · obtain rfl : n = t := by omega
      have HZ := Lib.hid hz
      clear hz
      go_wp2_with fail
      go_ret
      exact ⟨false, rfl, p, q, M, S, H.out, Chg.refl _ _, .inl ⟨rfl, rfl, rfl, HZ.out⟩⟩
end Go.Proofs.Ytoijjlpkoniipaa
end
section
/- Matrices: Inverse. -/
namespace Go.Proofs.Ytoijjlpkoniipaa
open Go.RowKit Go.Proofs.YtoijjlpkoniipaaW.PrintWords Go.Proofs.YtoijjlpkoniipaaW.PrintLast Gf Lin
set_option linter.unusedSimpArgs false
/-- A square matrix. -/
def Sq (m : List (List UInt8)) : Prop := Rgt m ∧ m.length = (gr m 0).length
/-- What Inverse answers: the rows, the error. -/
def InvPost (m : List (List UInt8)) (w' : World) (v : Value) (ev : Int) : Prop :=
  (¬ Sq m ∧ v = .slice none 0 0 ∧ ev = 14) ∨
  (Sq m ∧ v = .slice none 0 0 ∧ ev = 11 ∧ ∃ (x : Nat → UInt8) (i : Nat), i < m.length ∧ x i ≠ 0 ∧ ∀ a, a < m.length → sm m.length (fun j => gm (fn m a j) (x j)) = 0) ∨
  (Sq m ∧ ev = 0 ∧ ∃ M S, Rel m.length (fn m) Lin.unit M S ∧ (∀ i, i < m.length → ∀ j, j < m.length → M i j = Lin.unit i j) ∧ RBB w' v (rowsOf m.length m.length S))
theorem inverse_nil (A : Option Addr) (l cap : Nat) (w : World) : Calls Try.prog 51 #[.pointer none, .slice A l cap] w fun e w' => e = .returned (.tuple #[.slice none 0 0, .int .i64 15]) ∧ w' = w := by
  go_enter Try.func51, Try.ntmps51
  go_wp2_with fail
  go_ret2
  exact ⟨rfl, rfl⟩
set_option maxHeartbeats 4000000 in
set_option maxRecDepth 100000 in
theorem inverse_calls (gt : Nat) (A : Option Addr) (m : List (List UInt8)) (cap : Nat) (w : World) (ht : Tab w gt) (hg : gt < w.heap.size) (hr : KBB.C w A m.length (bss m)) :
    Calls Try.prog 51 #[.pointer (some ⟨gt, 0, none⟩), .slice A m.length cap] w fun e w' => ∃ v ev, e = .returned (.tuple #[v, .int .i64 ev]) ∧ InvPost m w' v ev ∧ Below w.heap.size w w' := by
  have hri := right_calls A m cap w hr
  by_cases hm : Rgt m
  · obtain ⟨ad, B0, c0, rfl, hcell, hcc, _⟩ := C_rowD hr (k := 0) (by have := hm.n1; omega)
    have add0 : ad.add 0 = ad := by simp [Addr.add]
    rw [add0] at hcell
    have hcop := copied_calls (some ad) m cap w hr hm
    by_cases hsq : m.length = (gr m 0).length
    · have hSq : Sq m := ⟨hm, hsq⟩
      rw [← hsq] at hcop hcell
      have HFN := Lib.hid (show InvPost m = InvPost m from rfl)
      obtain ⟨n, hn⟩ : ∃ n, n = m.length := ⟨_, rfl⟩
      have Hn := Lib.hid hn
      have n1 : 1 ≤ n := by have := hm.n1; omega
      have n2 : n ≤ 255 := by have := hm.n2; omega
      rw [← hn] at hri hcop hcell ⊢
      have tn : ((n : Int) != (n : Int)) = false := by simp
      have i0 : (0 : Int) < (n : Int) := by omega
      have HM := Lib.hid hm
      have HSQ := Lib.hid hSq
      have HT := Lib.hid ht
      clear hn hr hm hsq hSq hcc add0 ht
      go_enter Try.func51, Try.ntmps51
      go_wp2_with fail
      refine hri.mono ?_
      clear hri
      rintro e w0 ⟨b, rfl, rfl, hb⟩
      have hbt : b = true := hb.2 HM.out
      subst hbt
      clear hb
      go_wp2_with fail
      refine hcop.mono ?_
      clear hcop
      rintro e w1 ⟨rfl, hm1, hb1, hs1⟩
      have hun := unit_calls n n1 n2 w1
      have HM1 := Lib.hid hm1
      have HB1 := Lib.hid hb1
      have HS1 := Lib.hid hs1
      clear hm1 hb1 hs1 tn
      go_wp2_with fail
      refine hun.mono ?_
      clear hun
      rintro e w2 ⟨rfl, hm2, hb2, hs2⟩
      have HM2 := Lib.hid hm2
      have HB2 := Lib.hid hb2
      have HS2 := Lib.hid hs2
      clear hm2 hb2 hs2
      go_wp2_with fail
      obtain ⟨w3, hw3⟩ : ∃ w3, w3 = w2.alloc (.cells #[.pointer (some ⟨gt, 0, none⟩), .slice (some ⟨w0.heap.size + 1, 0, none⟩) n n, .slice (some ⟨w1.heap.size + 1, 0, none⟩) n n] 102) := ⟨_, rfl⟩
      rw [← hw3]
      have hb12 : Below w0.heap.size w0 w2 := HB1.out.trans (HB2.out.mono HB1.out.size)
      have hb3 : Below w2.heap.size w2 w3 := by rw [hw3]; exact (Below.refl _ _).alloc (Nat.le_refl _) _
      have hb03 : Below w0.heap.size w0 w3 := hb12.trans (hb3.mono hb12.size)
      have s1 := HS1.out
      have s2 := HS2.out
      have s3 : w3.heap.size = w2.heap.size + 1 := by rw [hw3]; simp
      have hwk : Wk w3 w2.heap.size gt (w0.heap.size + 1) w0.heap.size (w1.heap.size + 1) w1.heap.size n n n id id (fn m) Lin.unit := by
        refine ⟨by rw [hw3]; exact heap_alloc_new w2 _, tab_same HT.out (hb03.block gt hg), ?_, HM2.out.same (hb3.block _ (by omega)) (hb3.block _ (by omega)), perm_id n, perm_id n, by omega, by omega, by omega, by omega, ⟨n1, n2⟩, ⟨n1, n2⟩, ⟨n1, n2⟩⟩
        exact HM1.out.same ((hb3.block _ (by omega)).trans (HB2.out.block _ (by omega))) ((hb3.block _ (by omega)).trans (HB2.out.block _ (by omega)))
      obtain ⟨g, hgg⟩ : ∃ g, g = w2.heap.size := ⟨_, rfl⟩
      obtain ⟨gm, hgm⟩ : ∃ gm, gm = w0.heap.size + 1 := ⟨_, rfl⟩
      obtain ⟨ga, hga⟩ : ∃ ga, ga = w0.heap.size := ⟨_, rfl⟩
      obtain ⟨gs, hgs⟩ : ∃ gs, gs = w1.heap.size + 1 := ⟨_, rfl⟩
      obtain ⟨gb, hgb⟩ : ∃ gb, gb = w1.heap.size := ⟨_, rfl⟩
      have hWF : ∀ i, WF gm ga gs gb i → w0.heap.size ≤ i := fun i hi => by unfold WF at hi; omega
      rw [← hgg, ← hgm, ← hga, ← hgs, ← hgb] at hwk
      rw [← hgg, ← hgm, ← hgs]
      have HWK := Lib.hid hwk
      have HB03 := Lib.hid hb03
      have HWF := Lib.hid hWF
      clear hw3 hb12 hb3 hb03 s1 s2 s3 hwk hgg hgm hga hgs hgb hWF HM1 HM2 HB1 HB2 HS1 HS2 hcell
      go_loopw [34] (fun z wr => ∃ i : Nat, i ≤ n ∧ z = .int .i64 i ∧ ∃ p q M S, Wk wr g gt gm ga gs gb n n n p q M S ∧ Rel n (fn m) Lin.unit M S ∧ Cols n i id M ∧ Chg (WF gm ga gs gb) w3 wr) (fun z _ => n - (intOf z).toNat)
      case atStart => exact ⟨0, by omega, rfl, _, _, _, _, HWK.out, Rel.start n _ _, fun t ht => by omega, Chg.refl _ _⟩
      case round =>
        obtain ⟨i, hi, rfl, p, q, M, S, hwi, hrel', hcols, hchi⟩ := hrel
        by_cases hin : i < n
        · have hcl := clear_calls hwi hin hin
          have l1 : (0 : Int) ≤ (i : Int) := by omega
          have l2 : (i : Int) < (n : Int) := by omega
          have HRE := Lib.hid hrel'
          have HCO := Lib.hid hcols
          have HCH := Lib.hid hchi
          clear hwi hrel' hcols hchi
          go_wp2_with fail
          refine hcl.mono ?_
          clear hcl
          rintro e w5 ⟨b, rfl, p', q', M', S', hw5, hch5, hres⟩
          have hch6 := HCH.out.trans hch5 (fun _ hx => .inl hx)
          have HW5 := Lib.hid hw5
          have HC6 := Lib.hid hch6
          clear hw5 hch5 hch6
          rcases hres with ⟨rfl, rfl, rfl, hz⟩ | ⟨rfl, at_, ha1, ha2, hne, rfl, rfl⟩
          · obtain ⟨x, hx1, hx2⟩ := stuck_kernel hin HCO.out hz
            have hk := HRE.out.kernel x hx2
            have hbel := HC6.out.below (B := w0.heap.size) HB03.out HB03.out.size HWF.out
            have HB := Lib.hid hbel
            have HK : Hid (∃ (x : Nat → UInt8) (i : Nat), i < n ∧ x i ≠ 0 ∧ ∀ a, a < n → sm n (fun j => Gf.gm (fn m a j) (x j)) = 0) := Lib.hid ⟨x, i, hin, hx1, hk⟩
            clear hz hx1 hx2 hk hbel x
            go_wp2_with fail
            go_ret2
            exact ⟨_, _, rfl, .inr (.inl ⟨HSQ.out, rfl, rfl, by rw [← Hn.out]; exact HK.out⟩), HB.out⟩
          · have hr2 := HRE.out.clr hin ha2 hne
            have hc2 := clr_cols HCO.out ha1 ha2 hne (p := id) rfl
            have HR2 := Lib.hid hr2
            have HC2 := Lib.hid hc2
            clear ha1 ha2 hne hr2 hc2
            go_wp2_with fail
            exact ⟨⟨i + 1, by omega, by go_num, p', q', _, _, HW5.out, HR2.out, HC2.out, HC6.out⟩, by simp [intOf]; omega⟩
        · obtain rfl : n = i := by omega
          have c2 := hwi.c2
          have hrd := hwi.s.reads (by omega) (by omega)
          have hbel := hchi.below (B := w0.heap.size) HB03.out HB03.out.size HWF.out
          have hrbb : RBB wr (.slice (some ⟨gs, 0, none⟩) n n) (rowsOf n n S) := ⟨some ⟨gs, 0, none⟩, n, by simp, by simp, by simpa using hrd⟩
          have HRB := Lib.hid hrbb
          have HB := Lib.hid hbel
          have HRE := Lib.hid hrel'
          have HCO := Lib.hid hcols
          clear hwi hrd hbel hrbb hrel' hcols hchi
          go_wp2_with fail
          go_ret2
          refine ⟨_, _, rfl, .inr (.inr ⟨HSQ.out, rfl, M, S, ?_⟩), HB.out⟩
          rw [← Hn.out]
          exact ⟨HRE.out, fun i hi j hj => HCO.out j hj i hi, HRB.out⟩
    · obtain ⟨n, hn⟩ : ∃ n, n = m.length := ⟨_, rfl⟩
      obtain ⟨c, hc⟩ : ∃ c, c = (gr m 0).length := ⟨_, rfl⟩
      have n1 : 1 ≤ n := by have := hm.n1; omega
      have tn : ((n : Int) != (c : Int)) = true := by simp; omega
      have i0 : (0 : Int) < (n : Int) := by omega
      have HM := Lib.hid hm
      have HNS : Hid (¬ Sq m) := Lib.hid fun q => hsq q.2
      rw [← hn] at hri ⊢
      rw [← hc] at hcell
      clear hn hc hr hm hsq hcc add0 ht hcop
      go_enter Try.func51, Try.ntmps51
      go_wp2_with fail
      refine hri.mono ?_
      clear hri
      rintro e w0 ⟨b, rfl, rfl, hb⟩
      have hbt : b = true := hb.2 HM.out
      subst hbt
      clear hb
      go_wp2_with fail
      go_ret2
      exact ⟨_, _, rfl, .inl ⟨HNS.out, rfl, rfl⟩, Below.refl _ _⟩
  · have HNS : Hid (¬ Sq m) := Lib.hid fun q => hm q.1
    have HM := Lib.hid hm
    clear hm hr ht
    go_enter Try.func51, Try.ntmps51
    go_wp2_with fail
    refine hri.mono ?_
    clear hri
    rintro e w0 ⟨b, rfl, rfl, hb⟩
    have hbt : b = false := by
      cases b with
      | false => rfl
      | true => exact absurd (hb.1 rfl) HM.out
    subst hbt
    clear hb
    go_wp2_with fail
    go_ret2
    exact ⟨_, _, rfl, .inl ⟨HNS.out, rfl, rfl⟩, Below.refl _ _⟩
end Go.Proofs.Ytoijjlpkoniipaa
end
section
/- Matrices: the example; the law MatrixNil. -/
namespace Go.Proofs.Ytoijjlpkoniipaa
open Go.RowKit Go.Proofs.YtoijjlpkoniipaaW.PrintWords Go.Proofs.YtoijjlpkoniipaaW.PrintLast Gf Lin
set_option linter.unusedSimpArgs false
theorem two_inv {S : Lin.M} (h : mul 1 S (fn [[2]]) 0 0 = Lin.unit 0 0) : S 0 0 = 142 := by
  have h1 : gm (S 0 0) 2 = 1 := by
    have : sm 1 (fun t => gm (S 0 t) (fn [[2]] t 0)) = 1 := by
      have e : Lin.unit 0 0 = 1 := rfl
      rw [← e]; exact h
    simpa [sm, fn, gr, gb] using this
  have h2 : gm (S 0 0) 2 = gm 142 2 := by rw [h1]; decide +kernel
  have h3 : gm (S 0 0 ^^^ 142) 2 = 0 := by rw [gm_comm, gm_xor, gm_comm 2 (S 0 0), h2, gm_comm 2 142, UInt8.xor_self]
  rcases gm_eq_zero.1 h3 with e | e
  · exact xor_eq_zero e
  · exact absurd e (by decide)
theorem sq_two : Sq [[2]] := ⟨⟨by decide, by decide, by decide, by decide, fun i hi => by
  have : i = 0 := by simpa using hi
  subst this; rfl⟩, by decide⟩
set_option maxHeartbeats 1000000 in
set_option maxRecDepth 100000 in
theorem wakes08 (w : World) : Calls Try.prog 49 #[] w fun e w' => e = .returned (.bool true) ∧ Below w.heap.size w w' := by
  go_enter Try.func49, Try.ntmps49
  go_wp2_with fail
  refine (make_calls w).mono ?_
  rintro e w1 ⟨rfl, ht, hlt, hb1⟩
  have HT := Lib.hid ht
  have HB := Lib.hid hb1
  have HL := Lib.hid hlt
  clear ht hb1 hlt
  go_wp2_with fail
  obtain ⟨w2, hw2⟩ : ∃ w2, w2 = ((w1.alloc (.cells #[.int .u8 2] 5)).alloc (.cells #[.slice (some ⟨w1.heap.size, 0, none⟩) 1 1] 35)) := ⟨_, rfl⟩
  rw [← hw2]
  have hb2 : Below w1.heap.size w1 w2 := by rw [hw2]; exact ((Below.refl _ _).alloc (Nat.le_refl _) _).alloc (by simp) _
  have k1 : w2.heap[w1.heap.size]? = some (.cells #[.int .u8 2] 5) := by rw [hw2]; exact (Below.heap_alloc _ _ _ (by simp)).trans (heap_alloc_new w1 _)
  have k2 : w2.heap[w1.heap.size + 1]? = some (.cells #[.slice (some ⟨w1.heap.size, 0, none⟩) 1 1] 35) := by
    rw [hw2]
    have := heap_alloc_new (w1.alloc (.cells #[.int .u8 2] 5)) (.cells #[.slice (some ⟨w1.heap.size, 0, none⟩) 1 1] 35)
    simpa using this
  have hr : KBB.C w2 (some ⟨w1.heap.size + 1, 0, none⟩) 1 (bss [[2]]) := CC_of_cells (A := some ⟨w1.heap.size + 1, 0, none⟩) [[2]] (by simp) (fun _ => ⟨_, rfl, fun j hj => by
    have hj0 : j = 0 := by simpa using hj
    subst hj0
    refine ⟨some ⟨w1.heap.size, 0, none⟩, 1, by rw [add_at, cell_of_row _ _ _ _ _ _ k2]; rfl, by simp [gr], ?_⟩
    exact C_of_cells (A := some ⟨w1.heap.size, 0, none⟩) [2] (by simp) (fun _ => ⟨_, rfl, fun j hj => by
      have hj0 : j = 0 := by simpa using hj
      subst hj0
      rw [add_at, cell_of_row _ _ _ _ _ _ k1]; rfl⟩)⟩)
  have hin := inverse_calls w.heap.size (some ⟨w1.heap.size + 1, 0, none⟩) [[2]] 1 w2 (HT.out.below HL.out hb2) (by have := HL.out; have := hb2.size; omega) hr
  have HB2 := Lib.hid (HB.out.trans (hb2.mono HB.out.size))
  clear hr k1 k2 hb2 hw2
  refine hin.mono ?_
  clear hin
  rintro e w3 ⟨v, ev, rfl, hpost, hb3⟩
  have HB3 := Lib.hid (HB2.out.trans (hb3.mono HB2.out.size))
  clear hb3
  rcases hpost with ⟨h, _⟩ | ⟨_, _, _, x, i, hi, hx, h0⟩ | ⟨_, rfl, M, S, hrel, hun, ⟨A, c, rfl, hcap, hC⟩⟩
  · exact absurd sq_two h
  · exfalso
    have hi0 : i = 0 := by simpa using hi
    subst hi0
    have := h0 0 (by decide)
    have h2 : gm 2 (x 0) = 0 := by simpa [sm, fn, gr, gb] using this
    rcases gm_eq_zero.1 h2 with e | e
    · exact absurd e (by decide)
    · exact hx e
  · have hS := two_inv ((hrel.inverse hun).1 0 (by decide) 0 (by decide))
    have hl : (rowsOf ([[2]] : List (List UInt8)).length ([[2]] : List (List UInt8)).length S).length = 1 := by simp
    obtain ⟨ad, B, cB, rfl, hcell, hcc, hrow⟩ := C_rowD hC (k := 0) (by rw [hl]; decide)
    have hg : gr (rowsOf ([[2]] : List (List UInt8)).length ([[2]] : List (List UInt8)).length S) 0 = [142] := by
      rw [gr_rowsOf _ (by decide)]
      show (List.range 1).map (S 0) = [142]
      simp [hS]
    rw [hg] at hcell hrow
    obtain ⟨ad2, rfl, hbyte⟩ := C_byteD hrow (k := 0) (by decide)
    have add0 : ad.add 0 = ad := by simp [Addr.add]
    have add1 : ad2.add 0 = ad2 := by simp [Addr.add]
    rw [add0] at hcell
    rw [add1] at hbyte
    have hcell' : w3.cell? ad = some (.slice (some ad2) 1 cB) := hcell
    have hbyte' : w3.cell? ad2 = some (.int .u8 142) := hbyte
    rw [hl]
    clear hcell hbyte hrow hg hcc hS hrel hun hC hcap add0 add1 hl
    go_wp2_with fail
    go_ret
    exact ⟨rfl, HB3.out⟩
theorem mmul_nil (A B : Option Addr) (l l' cap cap' : Nat) (w : World) : Calls Try.prog 60 #[.pointer none, .slice A l cap, .slice B l' cap'] w fun e w' => e = .returned (.tuple #[.slice none 0 0, .int .i64 15]) ∧ w' = w := by
  go_enter Try.func60, Try.ntmps60
  go_wp2_with fail
  go_ret2
  exact ⟨rfl, rfl⟩
theorem cauchy_nil (a b : Int) (w : World) : Calls Try.prog 57 #[.pointer none, .int .i64 a, .int .i64 b] w fun e w' => e = .returned (.tuple #[.slice none 0 0, .int .i64 15]) ∧ w' = w := by
  go_enter Try.func57, Try.ntmps57
  go_wp2_with fail
  go_ret2
  exact ⟨rfl, rfl⟩
theorem rank_nil (A : Option Addr) (l cap : Nat) (w : World) : Calls Try.prog 52 #[.pointer none, .slice A l cap] w fun e w' => e = .returned (.int .i64 0) ∧ w' = w := by
  go_enter Try.func52, Try.ntmps52
  go_wp2_with fail
  go_ret
  exact ⟨rfl, rfl⟩
set_option maxHeartbeats 1000000 in
set_option maxRecDepth 100000 in
theorem MatrixNil_walk (A : Option Addr) (m : List (List UInt8)) (cap : Nat) (hcap : m.length ≤ cap) (w : World) (hr : KBB.C w A m.length (bss m)) (n : Int) (n0 : -9223372036854775808 ≤ n) (n1 : n ≤ 9223372036854775807) :
    Calls Try.prog 17 #[.slice A m.length cap, .int .i64 n] w fun e w' => e = .returned (.bool true) ∧ Below w.heap.size w w' := by
  generalize m.length = l at *
  clear hr hcap
  go_enter Try.func17, Try.ntmps17
  go_wp2_with fail
  refine (wakes08 _).mono ?_
  rintro e w0 ⟨rfl, hb0⟩
  go_wp2_with fail
  refine (mmul_nil A A l l cap cap _).mono ?_
  rintro e w1 ⟨rfl, rfl⟩
  go_wp2_with fail
  refine (inverse_nil A l cap _).mono ?_
  rintro e w2 ⟨rfl, rfl⟩
  go_wp2_with fail
  refine (cauchy_nil n n _).mono ?_
  rintro e w3 ⟨rfl, rfl⟩
  go_wp2_with fail
  refine (rank_nil A l cap _).mono ?_
  rintro e w4 ⟨rfl, rfl⟩
  go_wp2_with fail
  go_ret
  exact ⟨rfl, hb0⟩
end Go.Proofs.Ytoijjlpkoniipaa
end
