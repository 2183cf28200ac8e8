/- Matrices: add, the walk. -/
import Derived.Test.YtoijjlpkoniipaaMatAdd
namespace Go.Proofs.Ytoijjlpkoniipaa
open Go.RowKit Go.Proofs.YtoijjlpkoniipaaW.PrintWords Go.Proofs.YtoijjlpkoniipaaW.PrintLast Gf Lin
set_option linter.unusedSimpArgs false
set_option maxHeartbeats 4000000 in
set_option maxRecDepth 100000 in
theorem wadd_calls {w : World} {g gt gm ga gs gb n c d : Nat} {p q : Nat → Nat} {M S : Lin.M} (h : Wk w g gt gm ga gs gb n c d p q M S) {ti src : Nat} (hti : ti < n) (hsrc : src < n) (hne : ti ≠ src) (a : UInt8) :
    Calls Try.prog 80 #[.pointer (some ⟨g, 0, none⟩), .int .i64 (ti : Int), .int .i64 (src : Int), .int .u8 (a.toNat : Int)] w fun e w' => e = .returned (.tuple #[]) ∧ Wk w' g gt gm ga gs gb n c d p q (addRow ti src a M) (addRow ti src a S) ∧ Chg (WF gm ga gs gb) w w' := by
  obtain ⟨oa0, ho1⟩ : ∃ o, o = p ti * c := ⟨_, rfl⟩
  obtain ⟨oa1, ho2⟩ : ∃ o, o = q ti * d := ⟨_, rfl⟩
  obtain ⟨ob0, ho3⟩ : ∃ o, o = p src * c := ⟨_, rfl⟩
  obtain ⟨ob1, ho4⟩ : ∃ o, o = q src * d := ⟨_, rfl⟩
  have hbo := both_calls h hti
  rw [← ho1, ← ho2] at hbo
  have H := Lib.hid h
  have HOA0 := Lib.hid ho1
  have HOA1 := Lib.hid ho2
  have HOB0 := Lib.hid ho3
  have HOB1 := Lib.hid ho4
  clear h ho1 ho2 ho3 ho4
  go_enter Try.func80, Try.ntmps80
  go_wp2_with fail
  refine hbo.mono ?_
  clear hbo
  rintro e w1 ⟨rfl, hb1⟩
  have h1 := H.out.below hb1
  have hbo := both_calls h1 hsrc
  rw [← HOB0.out, ← HOB1.out] at hbo
  have HB1 := Lib.hid hb1
  clear h1 hb1
  go_wp2_with fail
  refine hbo.mono ?_
  clear hbo
  rintro e w2 ⟨rfl, hb2⟩
  have hbw2 : Below w.heap.size w w2 := HB1.out.trans (hb2.mono HB1.out.size)
  clear hb2
  go_wp2_with fail
  obtain ⟨w3, hw3⟩ : ∃ w3, w3 = ((w2.alloc (.cells #[.slice (some ⟨ga, oa0, none⟩) c c, .slice (some ⟨gb, oa1, none⟩) d d] 113)).alloc (.cells #[.slice (some ⟨ga, ob0, none⟩) c c, .slice (some ⟨gb, ob1, none⟩) d d] 113)) := ⟨_, rfl⟩
  rw [← hw3]
  have hb3 : Below w.heap.size w w3 := by rw [hw3]; exact (hbw2.alloc hbw2.size _).alloc (by have := hbw2.size; simp; omega) _
  have hB8 : w3.heap[w2.heap.size]? = some (.cells #[.slice (some ⟨ga, oa0, none⟩) c c, .slice (some ⟨gb, oa1, none⟩) d d] 113) := by rw [hw3]; exact (Below.heap_alloc _ _ _ (by simp)).trans (heap_alloc_new w2 _)
  have hB9 : w3.heap[w2.heap.size + 1]? = some (.cells #[.slice (some ⟨ga, ob0, none⟩) c c, .slice (some ⟨gb, ob1, none⟩) d d] 113) := by
    rw [hw3]
    have := heap_alloc_new (w2.alloc (.cells #[.slice (some ⟨ga, oa0, none⟩) c c, .slice (some ⟨gb, oa1, none⟩) d d] 113)) (.cells #[.slice (some ⟨ga, ob0, none⟩) c c, .slice (some ⟨gb, ob1, none⟩) d d] 113)
    simpa using this
  have hs3 : w3.heap.size = w2.heap.size + 2 := by rw [hw3]; simp
  obtain ⟨A9, hA9⟩ : ∃ A9, A9 = w2.heap.size + 1 := ⟨_, rfl⟩
  rw [← hA9] at hB9 ⊢
  obtain ⟨A8, hA8⟩ : ∃ A8, A8 = w2.heap.size := ⟨_, rfl⟩
  rw [← hA8] at hB8 ⊢
  have hlt := H.out.lt
  have hsz := hbw2.size
  have hn8 : A8 < w3.heap.size ∧ ¬ WF gm ga gs gb A8 := ⟨by omega, by unfold WF; omega⟩
  have hn9 : A9 < w3.heap.size ∧ ¬ WF gm ga gs gb A9 := ⟨by omega, by unfold WF; omega⟩
  have h3 := H.out.below hb3
  have HW3 := Lib.hid h3
  have HN8 := Lib.hid hn8
  have HN9 := Lib.hid hn9
  have HB8 := Lib.hid hB8
  have HB9 := Lib.hid hB9
  have HB3 := Lib.hid hb3
  clear hw3 hb3 hB8 hB9 hs3 hA9 hA8 hlt hsz hn8 hn9 h3 hbw2
  go_loopw [18] (fun x wr => ∃ k : Nat, k ≤ 2 ∧ x = .int .i64 k ∧ Wk wr g gt gm ga gs gb n c d p q (if k = 0 then M else addRow ti src a M) (if k ≤ 1 then S else addRow ti src a S) ∧ Chg (WF gm ga gs gb) w3 wr) (fun x _ => 2 - (intOf x).toNat)
  case atStart => exact ⟨0, by omega, rfl, by simpa using HW3.out, Chg.refl _ _⟩
  case round =>
    obtain ⟨k, hk, rfl, hw, hch⟩ := hrel
    by_cases hlt : k < 2
    · by_cases hk0 : k = 0
      · subst hk0
        have hw : Wk wr g gt gm ga gs gb n c d p q M S := by simpa using hw
        have l1 : wr.cell? ⟨A8, 0, none⟩ = some (.slice (some ⟨ga, oa0, none⟩) c c) := by rw [cell_of_row _ _ 0 _ _ _ ((hch.block A8 HN8.out.1 HN8.out.2).trans HB8.out)]; rfl
        have HWK := Lib.hid hw
        have HCK := Lib.hid hch
        have hc1 := hw.c1
        obtain ⟨wo, hwo⟩ : ∃ wo, wo = wr := ⟨_, rfl⟩
        subst hwo
        clear hw hch hlt hk
        go_wp2_with fail
        go_loopw [25] (fun z wr => ∃ j : Nat, j ≤ c ∧ z = .int .i64 j ∧ Wk wr g gt gm ga gs gb n c d p q (addTo ti src a j M) S ∧ Chg (WF gm ga gs gb) w3 wr) (fun z _ => c - (intOf z).toNat)
        case atStart => exact ⟨0, by omega, rfl, by rw [addTo_zero]; exact HWK.out, HCK.out⟩
        case round =>
          obtain ⟨j, hj, rfl, hwj, hcj⟩ := hrel
          by_cases hjl : j < c
          · have hx0 := hwj.m.cells ti hti j hjl
            have hy0 := hwj.m.cells src hsrc j hjl
            rw [addTo_at] at hx0
            rw [addTo_src a M hne] at hy0
            have k8 := (hcj.block A8 HN8.out.1 HN8.out.2).trans HB8.out
            have k9 := (hcj.block A9 HN9.out.1 HN9.out.2).trans HB9.out
            have h1 : wr.cell? ⟨A8, 0, none⟩ = some (.slice (some ⟨ga, oa0, none⟩) c c) := by rw [cell_of_row _ _ 0 _ _ _ k8]; rfl
            have h2 : wr.cell? ⟨A9, 0, none⟩ = some (.slice (some ⟨ga, ob0, none⟩) c c) := by rw [cell_of_row _ _ 0 _ _ _ k9]; rfl
            have h5 := hwj.c0
            rw [← HOA0.out] at hx0
            rw [← HOB0.out] at hy0
            obtain ⟨x, hx⟩ : ∃ x, x = M ti j := ⟨_, rfl⟩
            obtain ⟨y, hy⟩ : ∃ y, y = M src j := ⟨_, rfl⟩
            rw [← hx] at hx0
            rw [← hy] at hy0
            have h3 := hx0
            have h4 := hy0
            have bd : Below wr.heap.size wr wr.drew := ⟨rfl, rfl, rfl, Nat.le_refl _, fun _ _ => rfl⟩
            have htb : Tab wr.drew gt := (hwj.below bd).tab
            have hxx0 := u8_xor_all x (Gf.gm a y)
            obtain ⟨v, hv⟩ : ∃ v, v = x ^^^ Gf.gm a y := ⟨_, rfl⟩
            have hxx : bits .xor .u8 (x.toNat : Int) ((Gf.gm a y).toNat : Int) = (v.toNat : Int) := by rw [hv]; exact hxx0
            have hfin : ∀ w6, Drawn0 wr.drew w6 → Wk (w6.setCell ⟨ga, oa0 + j, none⟩ (.int .u8 (v.toNat : Int))) g gt gm ga gs gb n c d p q (addTo ti src a (j + 1) M) S ∧ Chg (WF gm ga gs gb) w3 (w6.setCell ⟨ga, oa0 + j, none⟩ (.int .u8 (v.toNat : Int))) := fun w6 hd6 => by
              have hb6 := bd.trans hd6.below
              refine ⟨?_, (hcj.trans (Chg.of_below (F := WF gm ga gs gb) hb6) (fun _ hx => .inl hx)).trans (Chg.set (F := WF gm ga gs gb) (a := ⟨ga, oa0 + j, none⟩) (.inr (.inl rfl))) (fun _ hx => .inl hx)⟩
              have := (hwj.below hb6).setM hti hjl v
              rw [← HOA0.out] at this
              exact this.congr (fun x' _ b' _ => by rw [hv, hx, hy]; exact (addTo_step a M x' b').symm) (fun _ _ _ _ => rfl)
            have hstay0 : ∀ w6, Drawn0 wr.drew w6 → w6.cell? ⟨A8, 0, none⟩ = some (.slice (some ⟨ga, oa0, none⟩) c c) ∧ w6.cell? ⟨A9, 0, none⟩ = some (.slice (some ⟨ga, ob0, none⟩) c c) ∧ w6.cell? ⟨ga, oa0 + j, none⟩ = some (.int .u8 (x.toNat : Int)) ∧ w6.cell? ⟨ga, ob0 + j, none⟩ = some (.int .u8 (y.toNat : Int)) ∧ w6.cell? ⟨g, 0, none⟩ = some (.pointer (some ⟨gt, 0, none⟩)) ∧ w6.frozen? ⟨ga, oa0 + j, none⟩ = false := fun w6 hd6 => by
              have hb6 := bd.trans hd6.below
              exact ⟨pw_cell_below hb6 h1, pw_cell_below hb6 h2, pw_cell_below hb6 h3, pw_cell_below hb6 h4, pw_cell_below hb6 h5, (hwj.below hb6).m.fa _⟩
            have hstay := Lib.hid hstay0
            have HFIN := Lib.hid hfin
            have i1 : (0 : Int) ≤ (j : Int) := by omega
            have i2 : (j : Int) < (c : Int) := by omega
            clear hstay0 hfin hwj hcj k8 k9 hx0 hy0 hx hy hv bd hxx0
            go_wp2
            refine start_ (n := 21) (S := fun w' => w'.cell? ⟨A8, 0, none⟩ = some (.slice (some ⟨ga, oa0, none⟩) c c) ∧ w'.cell? ⟨A9, 0, none⟩ = some (.slice (some ⟨ga, ob0, none⟩) c c) ∧ w'.cell? ⟨ga, oa0 + j, none⟩ = some (.int .u8 (x.toNat : Int)) ∧ w'.cell? ⟨ga, ob0 + j, none⟩ = some (.int .u8 (y.toNat : Int)) ∧ w'.cell? ⟨g, 0, none⟩ = some (.pointer (some ⟨gt, 0, none⟩))) (ds := [20]) #[false, false, false, false, false, false, false, false, false, false, false, false, false, false, false, false, false, false, false, false, false] (by kernel_rfl) rfl rfl ⟨h1, h2, h3, h4, h5⟩ (fun hHeld => ?_)
            refine pure_ (i := 0) (N := some 28) (v := ?_) (a' := ?_) #[true, false, false, false, false, false, false, false, false, false, false, false, false, false, false, false, false, false, false, false, false] rfl rfl (by kernel_rfl) (fun _ _ _ h => h) (Or.inl ⟨by rfl, ?_⟩) ?_ ?_
            rotate_left
            · intro w'
              go_simp
              with_reducible rfl
            rotate_left
            · simp only [Act.put, List.setIfInBounds_toArray, List.set_cons_zero, List.set_cons_succ, i64_w, i32_w]
              rfl
            refine pure_ (i := 1) (N := some 29) (v := ?_) (a' := ?_) #[true, true, false, false, false, false, false, false, false, false, false, false, false, false, false, false, false, false, false, false, false] rfl rfl (by kernel_rfl) (fun _ _ _ h => h) (Or.inl ⟨by rfl, ?_⟩) ?_ ?_
            rotate_left
            · intro w'
              go_simp
              with_reducible rfl
            rotate_left
            · simp only [Act.put, List.setIfInBounds_toArray, List.set_cons_zero, List.set_cons_succ, i64_w, i32_w]
              rfl
            refine pure_ (i := 3) (N := some 31) (v := ?_) (a' := ?_) #[true, true, false, true, false, false, false, false, false, false, false, false, false, false, false, false, false, false, false, false, false] rfl rfl (by kernel_rfl) (fun _ _ _ h => h) (Or.inl ⟨by rfl, ?_⟩) ?_ ?_
            rotate_left
            · intro w'
              go_simp
              with_reducible rfl
            rotate_left
            · simp only [Act.put, List.setIfInBounds_toArray, List.set_cons_zero, List.set_cons_succ, i64_w, i32_w]
              rfl
            refine pure_ (i := 6) (N := some 34) (v := ?_) (a' := ?_) #[true, true, false, true, false, false, true, false, false, false, false, false, false, false, false, false, false, false, false, false, false] rfl rfl (by kernel_rfl) (fun _ _ _ h => h) (Or.inl ⟨by rfl, ?_⟩) ?_ ?_
            rotate_left
            · intro w'
              go_simp
              with_reducible rfl
            rotate_left
            · simp only [Act.put, List.setIfInBounds_toArray, List.set_cons_zero, List.set_cons_succ, i64_w, i32_w]
              rfl
            refine pure_ (i := 7) (N := some 35) (v := ?_) (a' := ?_) #[true, true, false, true, false, false, true, true, false, false, false, false, false, false, false, false, false, false, false, false, false] rfl rfl (by kernel_rfl) (fun _ _ _ h => h) (Or.inl ⟨by rfl, ?_⟩) ?_ ?_
            rotate_left
            · intro w'
              go_simp
              with_reducible rfl
            rotate_left
            · simp only [Act.put, List.setIfInBounds_toArray, List.set_cons_zero, List.set_cons_succ, i64_w, i32_w]
              rfl
            refine pure_ (i := 8) (N := some 36) (v := ?_) (a' := ?_) #[true, true, false, true, false, false, true, true, true, false, false, false, false, false, false, false, false, false, false, false, false] rfl rfl (by kernel_rfl) (fun _ _ _ h => h) (Or.inl ⟨by rfl, ?_⟩) ?_ ?_
            rotate_left
            · intro w'
              go_simp
              with_reducible rfl
            rotate_left
            · simp only [Act.put, List.setIfInBounds_toArray, List.set_cons_zero, List.set_cons_succ, i64_w, i32_w]
              rfl
            refine pure_ (i := 10) (N := some 38) (v := ?_) (a' := ?_) #[true, true, false, true, false, false, true, true, true, false, true, false, false, false, false, false, false, false, false, false, false] rfl rfl (by kernel_rfl) (fun _ _ _ h => h) (Or.inl ⟨by rfl, ?_⟩) ?_ ?_
            rotate_left
            · intro w'
              go_simp
              with_reducible rfl
            rotate_left
            · simp only [Act.put, List.setIfInBounds_toArray, List.set_cons_zero, List.set_cons_succ, i64_w, i32_w]
              rfl
            refine pure_ (i := 11) (N := some 39) (v := ?_) (a' := ?_) #[true, true, false, true, false, false, true, true, true, false, true, true, false, false, false, false, false, false, false, false, false] rfl rfl (by kernel_rfl) (fun _ _ _ h => h) (Or.inl ⟨by rfl, ?_⟩) ?_ ?_
            rotate_left
            · intro w'
              go_simp
              with_reducible rfl
            rotate_left
            · simp only [Act.put, List.setIfInBounds_toArray, List.set_cons_zero, List.set_cons_succ, i64_w, i32_w]
              rfl
            refine pure_ (i := 12) (N := some 40) (v := ?_) (a' := ?_) #[true, true, false, true, false, false, true, true, true, false, true, true, true, false, false, false, false, false, false, false, false] rfl rfl (by kernel_rfl) (fun _ _ _ h => h) (Or.inl ⟨by rfl, ?_⟩) ?_ ?_
            rotate_left
            · intro w'
              go_simp
              with_reducible rfl
            rotate_left
            · simp only [Act.put, List.setIfInBounds_toArray, List.set_cons_zero, List.set_cons_succ, i64_w, i32_w]
              rfl
            refine pure_ (i := 14) (N := some 42) (v := ?_) (a' := ?_) #[true, true, false, true, false, false, true, true, true, false, true, true, true, false, true, false, false, false, false, false, false] rfl rfl (by kernel_rfl) (fun _ _ _ h => h) (Or.inl ⟨by rfl, ?_⟩) ?_ ?_
            rotate_left
            · intro w'
              go_simp
              with_reducible rfl
            rotate_left
            · simp only [Act.put, List.setIfInBounds_toArray, List.set_cons_zero, List.set_cons_succ, i64_w, i32_w]
              rfl
            refine take_ (i := 2) (N := some 30) (v := ?_) (a' := ?_) #[true, true, true, true, false, false, true, true, true, false, true, true, true, false, true, false, false, false, false, false, false] rfl rfl (by kernel_rfl) (fun _ _ _ h => h) (Or.inl ⟨by rfl, ?_⟩) hHeld ?_ ?_
            rotate_left
            · rintro w' ⟨s0, s1, s2, s3, s4⟩
              go_simp
              with_reducible rfl
            rotate_left
            · simp only [Act.put, List.setIfInBounds_toArray, List.set_cons_zero, List.set_cons_succ, i64_w, i32_w]
              rfl
            refine pure_ (i := 4) (N := some 32) (v := ?_) (a' := ?_) #[true, true, true, true, true, false, true, true, true, false, true, true, true, false, true, false, false, false, false, false, false] rfl rfl (by kernel_rfl) (fun _ _ _ h => h) (Or.inl ⟨by rfl, ?_⟩) ?_ ?_
            rotate_left
            · intro w'
              go_simp
              with_reducible rfl
            rotate_left
            · simp only [Act.put, List.setIfInBounds_toArray, List.set_cons_zero, List.set_cons_succ, i64_w, i32_w]
              rfl
            refine take_ (i := 5) (N := some 33) (v := ?_) (a' := ?_) #[true, true, true, true, true, true, true, true, true, false, true, true, true, false, true, false, false, false, false, false, false] rfl rfl (by kernel_rfl) (fun _ _ _ h => h) (Or.inl ⟨by rfl, ?_⟩) hHeld ?_ ?_
            rotate_left
            · rintro w' ⟨s0, s1, s2, s3, s4⟩
              go_simp
              with_reducible rfl
            rotate_left
            · simp only [Act.put, List.setIfInBounds_toArray, List.set_cons_zero, List.set_cons_succ, i64_w, i32_w]
              rfl
            refine take_ (i := 9) (N := some 37) (v := ?_) (a' := ?_) #[true, true, true, true, true, true, true, true, true, true, true, true, true, false, true, false, false, false, false, false, false] rfl rfl (by kernel_rfl) (fun _ _ _ h => h) (Or.inl ⟨by rfl, ?_⟩) hHeld ?_ ?_
            rotate_left
            · rintro w' ⟨s0, s1, s2, s3, s4⟩
              go_simp
              with_reducible rfl
            rotate_left
            · simp only [Act.put, List.setIfInBounds_toArray, List.set_cons_zero, List.set_cons_succ, i64_w, i32_w]
              rfl
            refine take_ (i := 13) (N := some 41) (v := ?_) (a' := ?_) #[true, true, true, true, true, true, true, true, true, true, true, true, true, true, true, false, false, false, false, false, false] rfl rfl (by kernel_rfl) (fun _ _ _ h => h) (Or.inl ⟨by rfl, ?_⟩) hHeld ?_ ?_
            rotate_left
            · rintro w' ⟨s0, s1, s2, s3, s4⟩
              go_simp
              with_reducible rfl
            rotate_left
            · simp only [Act.put, List.setIfInBounds_toArray, List.set_cons_zero, List.set_cons_succ, i64_w, i32_w]
              rfl
            refine pure_ (i := 15) (N := some 43) (v := ?_) (a' := ?_) #[true, true, true, true, true, true, true, true, true, true, true, true, true, true, true, true, false, false, false, false, false] rfl rfl (by kernel_rfl) (fun _ _ _ h => h) (Or.inl ⟨by rfl, ?_⟩) ?_ ?_
            rotate_left
            · intro w'
              go_simp
              with_reducible rfl
            rotate_left
            · simp only [Act.put, List.setIfInBounds_toArray, List.set_cons_zero, List.set_cons_succ, i64_w, i32_w]
              rfl
            refine take_ (i := 16) (N := some 44) (v := ?_) (a' := ?_) #[true, true, true, true, true, true, true, true, true, true, true, true, true, true, true, true, true, false, false, false, false] rfl rfl (by kernel_rfl) (fun _ _ _ h => h) (Or.inl ⟨by rfl, ?_⟩) hHeld ?_ ?_
            rotate_left
            · rintro w' ⟨s0, s1, s2, s3, s4⟩
              go_simp
              with_reducible rfl
            rotate_left
            · simp only [Act.put, List.setIfInBounds_toArray, List.set_cons_zero, List.set_cons_succ, i64_w, i32_w]
              rfl
            refine one_ (i := 17) (N := some 45) #[true, true, true, true, true, true, true, true, true, true, true, true, true, true, true, true, true, true, false, false, false] rfl rfl (by kernel_rfl) (by decide) (fun K hK => ?_)
            refine goes_ Try.func24 (by kernel_rfl) rfl #[.pointer (some ⟨gt, 0, none⟩), .int .u8 (a.toNat : Int), .int .u8 (y.toNat : Int)] (by rfl) rfl rfl (by simp only [List.map_toArray, List.map_cons, List.map_nil]; rfl) ?_
            with_reducible refine ((mul_calls gt a y _ htb)).mono ?_
            rintro e w6 ⟨rfl, hdr⟩
            refine ⟨_, rfl, ?_⟩
            obtain ⟨f1, f2, f3, f4, f5, f6⟩ := hstay.out w6 hdr
            have HF7 := Lib.hid (HFIN.out w6 hdr)
            refine hK.out _ _ ⟨f1, f2, f3, f4, f5⟩ (fun hHeld => ?_)
            clear hK K
            refine norm_ (a' := ?_) ?_ ?_
            rotate_left
            · show Act.put _ (some 45) _ = _
              simp only [Act.put, List.setIfInBounds_toArray, List.set_cons_zero, List.set_cons_succ, i64_w, i32_w]
              rfl
            refine pure_ (i := 18) (N := some 46) (v := ?_) (a' := ?_) #[true, true, true, true, true, true, true, true, true, true, true, true, true, true, true, true, true, true, true, false, false] rfl rfl (by kernel_rfl) (fun _ _ _ h => h) (Or.inl ⟨by rfl, ?_⟩) ?_ ?_
            rotate_left
            · intro w'
              go_simp
              with_reducible rfl
            rotate_left
            · simp only [Act.put, List.setIfInBounds_toArray, List.set_cons_zero, List.set_cons_succ, i64_w, i32_w]
              rfl
            refine pure_ (i := 19) (N := some 47) (v := ?_) (a' := ?_) #[true, true, true, true, true, true, true, true, true, true, true, true, true, true, true, true, true, true, true, true, false] rfl rfl (by kernel_rfl) (fun _ _ _ h => h) (Or.inl ⟨by rfl, ?_⟩) ?_ ?_
            rotate_left
            · intro w'
              go_simp
              with_reducible rfl
            rotate_left
            · simp only [Act.put, List.setIfInBounds_toArray, List.set_cons_zero, List.set_cons_succ, i64_w, i32_w]
              rfl
            refine last_ (i := 20) (N := none) #[true, true, true, true, true, true, true, true, true, true, true, true, true, true, true, true, true, true, true, true, true] rfl rfl (by kernel_rfl) (by decide) (fun K hK => ?_)
            refine skip_ (w1 := ?_) (by rfl) rfl ?_ ?_
            rotate_left
            · go_simp
              rfl
            refine hK.out _ _ ?_
            clear hK K
            refine done_ (by kernel_rfl) ?_
            go_wp2
            exact ⟨⟨j + 1, by omega, by go_num, HF7.out.1, HF7.out.2⟩, by simp [intOf]; omega⟩
          · obtain rfl : c = j := by omega
            have hdone : Wk wr g gt gm ga gs gb n c d p q (addRow ti src a M) S := hwj.congr (fun x' _ b' hb' => addTo_done a M x' b' hb') (fun _ _ _ _ => rfl)
            have HD := Lib.hid hdone
            have HCD := Lib.hid hcj
            clear hwj hcj hdone
            go_wp2_with fail
            exact ⟨⟨0 + 1, by omega, by go_num, by simpa using HD.out, HCD.out⟩, by simp [intOf]⟩
      · obtain rfl : k = 1 := by omega
        have hw : Wk wr g gt gm ga gs gb n c d p q (addRow ti src a M) S := by simpa using hw
        have l1 : wr.cell? ⟨A8, 1, none⟩ = some (.slice (some ⟨gb, oa1, none⟩) d d) := by rw [cell_of_row _ _ 1 _ _ _ ((hch.block A8 HN8.out.1 HN8.out.2).trans HB8.out)]; rfl
        have HWK := Lib.hid hw
        have HCK := Lib.hid hch
        have hc1 := hw.d1
        obtain ⟨wo, hwo⟩ : ∃ wo, wo = wr := ⟨_, rfl⟩
        subst hwo
        clear hw hch hlt hk hk0
        go_wp2_with fail
        go_loopw [25] (fun z wr => ∃ j : Nat, j ≤ d ∧ z = .int .i64 j ∧ Wk wr g gt gm ga gs gb n c d p q (addRow ti src a M) (addTo ti src a j S) ∧ Chg (WF gm ga gs gb) w3 wr) (fun z _ => d - (intOf z).toNat)
        case atStart => exact ⟨0, by omega, rfl, by rw [addTo_zero]; exact HWK.out, HCK.out⟩
        case round =>
          obtain ⟨j, hj, rfl, hwj, hcj⟩ := hrel
          by_cases hjl : j < d
          · have hx0 := hwj.s.cells ti hti j hjl
            have hy0 := hwj.s.cells src hsrc j hjl
            rw [addTo_at] at hx0
            rw [addTo_src a S hne] at hy0
            have k8 := (hcj.block A8 HN8.out.1 HN8.out.2).trans HB8.out
            have k9 := (hcj.block A9 HN9.out.1 HN9.out.2).trans HB9.out
            have h1 : wr.cell? ⟨A8, 1, none⟩ = some (.slice (some ⟨gb, oa1, none⟩) d d) := by rw [cell_of_row _ _ 1 _ _ _ k8]; rfl
            have h2 : wr.cell? ⟨A9, 1, none⟩ = some (.slice (some ⟨gb, ob1, none⟩) d d) := by rw [cell_of_row _ _ 1 _ _ _ k9]; rfl
            have h5 := hwj.c0
            rw [← HOA1.out] at hx0
            rw [← HOB1.out] at hy0
            obtain ⟨x, hx⟩ : ∃ x, x = S ti j := ⟨_, rfl⟩
            obtain ⟨y, hy⟩ : ∃ y, y = S src j := ⟨_, rfl⟩
            rw [← hx] at hx0
            rw [← hy] at hy0
            have h3 := hx0
            have h4 := hy0
            have bd : Below wr.heap.size wr wr.drew := ⟨rfl, rfl, rfl, Nat.le_refl _, fun _ _ => rfl⟩
            have htb : Tab wr.drew gt := (hwj.below bd).tab
            have hxx0 := u8_xor_all x (Gf.gm a y)
            obtain ⟨v, hv⟩ : ∃ v, v = x ^^^ Gf.gm a y := ⟨_, rfl⟩
            have hxx : bits .xor .u8 (x.toNat : Int) ((Gf.gm a y).toNat : Int) = (v.toNat : Int) := by rw [hv]; exact hxx0
            have hfin : ∀ w6, Drawn0 wr.drew w6 → Wk (w6.setCell ⟨gb, oa1 + j, none⟩ (.int .u8 (v.toNat : Int))) g gt gm ga gs gb n c d p q (addRow ti src a M) (addTo ti src a (j + 1) S) ∧ Chg (WF gm ga gs gb) w3 (w6.setCell ⟨gb, oa1 + j, none⟩ (.int .u8 (v.toNat : Int))) := fun w6 hd6 => by
              have hb6 := bd.trans hd6.below
              refine ⟨?_, (hcj.trans (Chg.of_below (F := WF gm ga gs gb) hb6) (fun _ hx => .inl hx)).trans (Chg.set (F := WF gm ga gs gb) (a := ⟨gb, oa1 + j, none⟩) (.inr (.inr (.inr rfl)))) (fun _ hx => .inl hx)⟩
              have := (hwj.below hb6).setS hti hjl v
              rw [← HOA1.out] at this
              exact this.congr (fun _ _ _ _ => rfl) (fun x' _ b' _ => by rw [hv, hx, hy]; exact (addTo_step a S x' b').symm)
            have hstay0 : ∀ w6, Drawn0 wr.drew w6 → w6.cell? ⟨A8, 1, none⟩ = some (.slice (some ⟨gb, oa1, none⟩) d d) ∧ w6.cell? ⟨A9, 1, none⟩ = some (.slice (some ⟨gb, ob1, none⟩) d d) ∧ w6.cell? ⟨gb, oa1 + j, none⟩ = some (.int .u8 (x.toNat : Int)) ∧ w6.cell? ⟨gb, ob1 + j, none⟩ = some (.int .u8 (y.toNat : Int)) ∧ w6.cell? ⟨g, 0, none⟩ = some (.pointer (some ⟨gt, 0, none⟩)) ∧ w6.frozen? ⟨gb, oa1 + j, none⟩ = false := fun w6 hd6 => by
              have hb6 := bd.trans hd6.below
              exact ⟨pw_cell_below hb6 h1, pw_cell_below hb6 h2, pw_cell_below hb6 h3, pw_cell_below hb6 h4, pw_cell_below hb6 h5, (hwj.below hb6).s.fa _⟩
            have hstay := Lib.hid hstay0
            have HFIN := Lib.hid hfin
            have i1 : (0 : Int) ≤ (j : Int) := by omega
            have i2 : (j : Int) < (d : Int) := by omega
            clear hstay0 hfin hwj hcj k8 k9 hx0 hy0 hx hy hv bd hxx0
            go_wp2
            refine start_ (n := 21) (S := fun w' => w'.cell? ⟨A8, 1, none⟩ = some (.slice (some ⟨gb, oa1, none⟩) d d) ∧ w'.cell? ⟨A9, 1, none⟩ = some (.slice (some ⟨gb, ob1, none⟩) d d) ∧ w'.cell? ⟨gb, oa1 + j, none⟩ = some (.int .u8 (x.toNat : Int)) ∧ w'.cell? ⟨gb, ob1 + j, none⟩ = some (.int .u8 (y.toNat : Int)) ∧ w'.cell? ⟨g, 0, none⟩ = some (.pointer (some ⟨gt, 0, none⟩))) (ds := [20]) #[false, false, false, false, false, false, false, false, false, false, false, false, false, false, false, false, false, false, false, false, false] (by kernel_rfl) rfl rfl ⟨h1, h2, h3, h4, h5⟩ (fun hHeld => ?_)
            refine pure_ (i := 0) (N := some 28) (v := ?_) (a' := ?_) #[true, false, false, false, false, false, false, false, false, false, false, false, false, false, false, false, false, false, false, false, false] rfl rfl (by kernel_rfl) (fun _ _ _ h => h) (Or.inl ⟨by rfl, ?_⟩) ?_ ?_
            rotate_left
            · intro w'
              go_simp
              with_reducible rfl
            rotate_left
            · simp only [Act.put, List.setIfInBounds_toArray, List.set_cons_zero, List.set_cons_succ, i64_w, i32_w]
              rfl
            refine pure_ (i := 1) (N := some 29) (v := ?_) (a' := ?_) #[true, true, false, false, false, false, false, false, false, false, false, false, false, false, false, false, false, false, false, false, false] rfl rfl (by kernel_rfl) (fun _ _ _ h => h) (Or.inl ⟨by rfl, ?_⟩) ?_ ?_
            rotate_left
            · intro w'
              go_simp
              with_reducible rfl
            rotate_left
            · simp only [Act.put, List.setIfInBounds_toArray, List.set_cons_zero, List.set_cons_succ, i64_w, i32_w]
              rfl
            refine pure_ (i := 3) (N := some 31) (v := ?_) (a' := ?_) #[true, true, false, true, false, false, false, false, false, false, false, false, false, false, false, false, false, false, false, false, false] rfl rfl (by kernel_rfl) (fun _ _ _ h => h) (Or.inl ⟨by rfl, ?_⟩) ?_ ?_
            rotate_left
            · intro w'
              go_simp
              with_reducible rfl
            rotate_left
            · simp only [Act.put, List.setIfInBounds_toArray, List.set_cons_zero, List.set_cons_succ, i64_w, i32_w]
              rfl
            refine pure_ (i := 6) (N := some 34) (v := ?_) (a' := ?_) #[true, true, false, true, false, false, true, false, false, false, false, false, false, false, false, false, false, false, false, false, false] rfl rfl (by kernel_rfl) (fun _ _ _ h => h) (Or.inl ⟨by rfl, ?_⟩) ?_ ?_
            rotate_left
            · intro w'
              go_simp
              with_reducible rfl
            rotate_left
            · simp only [Act.put, List.setIfInBounds_toArray, List.set_cons_zero, List.set_cons_succ, i64_w, i32_w]
              rfl
            refine pure_ (i := 7) (N := some 35) (v := ?_) (a' := ?_) #[true, true, false, true, false, false, true, true, false, false, false, false, false, false, false, false, false, false, false, false, false] rfl rfl (by kernel_rfl) (fun _ _ _ h => h) (Or.inl ⟨by rfl, ?_⟩) ?_ ?_
            rotate_left
            · intro w'
              go_simp
              with_reducible rfl
            rotate_left
            · simp only [Act.put, List.setIfInBounds_toArray, List.set_cons_zero, List.set_cons_succ, i64_w, i32_w]
              rfl
            refine pure_ (i := 8) (N := some 36) (v := ?_) (a' := ?_) #[true, true, false, true, false, false, true, true, true, false, false, false, false, false, false, false, false, false, false, false, false] rfl rfl (by kernel_rfl) (fun _ _ _ h => h) (Or.inl ⟨by rfl, ?_⟩) ?_ ?_
            rotate_left
            · intro w'
              go_simp
              with_reducible rfl
            rotate_left
            · simp only [Act.put, List.setIfInBounds_toArray, List.set_cons_zero, List.set_cons_succ, i64_w, i32_w]
              rfl
            refine pure_ (i := 10) (N := some 38) (v := ?_) (a' := ?_) #[true, true, false, true, false, false, true, true, true, false, true, false, false, false, false, false, false, false, false, false, false] rfl rfl (by kernel_rfl) (fun _ _ _ h => h) (Or.inl ⟨by rfl, ?_⟩) ?_ ?_
            rotate_left
            · intro w'
              go_simp
              with_reducible rfl
            rotate_left
            · simp only [Act.put, List.setIfInBounds_toArray, List.set_cons_zero, List.set_cons_succ, i64_w, i32_w]
              rfl
            refine pure_ (i := 11) (N := some 39) (v := ?_) (a' := ?_) #[true, true, false, true, false, false, true, true, true, false, true, true, false, false, false, false, false, false, false, false, false] rfl rfl (by kernel_rfl) (fun _ _ _ h => h) (Or.inl ⟨by rfl, ?_⟩) ?_ ?_
            rotate_left
            · intro w'
              go_simp
              with_reducible rfl
            rotate_left
            · simp only [Act.put, List.setIfInBounds_toArray, List.set_cons_zero, List.set_cons_succ, i64_w, i32_w]
              rfl
            refine pure_ (i := 12) (N := some 40) (v := ?_) (a' := ?_) #[true, true, false, true, false, false, true, true, true, false, true, true, true, false, false, false, false, false, false, false, false] rfl rfl (by kernel_rfl) (fun _ _ _ h => h) (Or.inl ⟨by rfl, ?_⟩) ?_ ?_
            rotate_left
            · intro w'
              go_simp
              with_reducible rfl
            rotate_left
            · simp only [Act.put, List.setIfInBounds_toArray, List.set_cons_zero, List.set_cons_succ, i64_w, i32_w]
              rfl
            refine pure_ (i := 14) (N := some 42) (v := ?_) (a' := ?_) #[true, true, false, true, false, false, true, true, true, false, true, true, true, false, true, false, false, false, false, false, false] rfl rfl (by kernel_rfl) (fun _ _ _ h => h) (Or.inl ⟨by rfl, ?_⟩) ?_ ?_
            rotate_left
            · intro w'
              go_simp
              with_reducible rfl
            rotate_left
            · simp only [Act.put, List.setIfInBounds_toArray, List.set_cons_zero, List.set_cons_succ, i64_w, i32_w]
              rfl
            refine take_ (i := 2) (N := some 30) (v := ?_) (a' := ?_) #[true, true, true, true, false, false, true, true, true, false, true, true, true, false, true, false, false, false, false, false, false] rfl rfl (by kernel_rfl) (fun _ _ _ h => h) (Or.inl ⟨by rfl, ?_⟩) hHeld ?_ ?_
            rotate_left
            · rintro w' ⟨s0, s1, s2, s3, s4⟩
              go_simp
              with_reducible rfl
            rotate_left
            · simp only [Act.put, List.setIfInBounds_toArray, List.set_cons_zero, List.set_cons_succ, i64_w, i32_w]
              rfl
            refine pure_ (i := 4) (N := some 32) (v := ?_) (a' := ?_) #[true, true, true, true, true, false, true, true, true, false, true, true, true, false, true, false, false, false, false, false, false] rfl rfl (by kernel_rfl) (fun _ _ _ h => h) (Or.inl ⟨by rfl, ?_⟩) ?_ ?_
            rotate_left
            · intro w'
              go_simp
              with_reducible rfl
            rotate_left
            · simp only [Act.put, List.setIfInBounds_toArray, List.set_cons_zero, List.set_cons_succ, i64_w, i32_w]
              rfl
            refine take_ (i := 5) (N := some 33) (v := ?_) (a' := ?_) #[true, true, true, true, true, true, true, true, true, false, true, true, true, false, true, false, false, false, false, false, false] rfl rfl (by kernel_rfl) (fun _ _ _ h => h) (Or.inl ⟨by rfl, ?_⟩) hHeld ?_ ?_
            rotate_left
            · rintro w' ⟨s0, s1, s2, s3, s4⟩
              go_simp
              with_reducible rfl
            rotate_left
            · simp only [Act.put, List.setIfInBounds_toArray, List.set_cons_zero, List.set_cons_succ, i64_w, i32_w]
              rfl
            refine take_ (i := 9) (N := some 37) (v := ?_) (a' := ?_) #[true, true, true, true, true, true, true, true, true, true, true, true, true, false, true, false, false, false, false, false, false] rfl rfl (by kernel_rfl) (fun _ _ _ h => h) (Or.inl ⟨by rfl, ?_⟩) hHeld ?_ ?_
            rotate_left
            · rintro w' ⟨s0, s1, s2, s3, s4⟩
              go_simp
              with_reducible rfl
            rotate_left
            · simp only [Act.put, List.setIfInBounds_toArray, List.set_cons_zero, List.set_cons_succ, i64_w, i32_w]
              rfl
            refine take_ (i := 13) (N := some 41) (v := ?_) (a' := ?_) #[true, true, true, true, true, true, true, true, true, true, true, true, true, true, true, false, false, false, false, false, false] rfl rfl (by kernel_rfl) (fun _ _ _ h => h) (Or.inl ⟨by rfl, ?_⟩) hHeld ?_ ?_
            rotate_left
            · rintro w' ⟨s0, s1, s2, s3, s4⟩
              go_simp
              with_reducible rfl
            rotate_left
            · simp only [Act.put, List.setIfInBounds_toArray, List.set_cons_zero, List.set_cons_succ, i64_w, i32_w]
              rfl
            refine pure_ (i := 15) (N := some 43) (v := ?_) (a' := ?_) #[true, true, true, true, true, true, true, true, true, true, true, true, true, true, true, true, false, false, false, false, false] rfl rfl (by kernel_rfl) (fun _ _ _ h => h) (Or.inl ⟨by rfl, ?_⟩) ?_ ?_
            rotate_left
            · intro w'
              go_simp
              with_reducible rfl
            rotate_left
            · simp only [Act.put, List.setIfInBounds_toArray, List.set_cons_zero, List.set_cons_succ, i64_w, i32_w]
              rfl
            refine take_ (i := 16) (N := some 44) (v := ?_) (a' := ?_) #[true, true, true, true, true, true, true, true, true, true, true, true, true, true, true, true, true, false, false, false, false] rfl rfl (by kernel_rfl) (fun _ _ _ h => h) (Or.inl ⟨by rfl, ?_⟩) hHeld ?_ ?_
            rotate_left
            · rintro w' ⟨s0, s1, s2, s3, s4⟩
              go_simp
              with_reducible rfl
            rotate_left
            · simp only [Act.put, List.setIfInBounds_toArray, List.set_cons_zero, List.set_cons_succ, i64_w, i32_w]
              rfl
            refine one_ (i := 17) (N := some 45) #[true, true, true, true, true, true, true, true, true, true, true, true, true, true, true, true, true, true, false, false, false] rfl rfl (by kernel_rfl) (by decide) (fun K hK => ?_)
            refine goes_ Try.func24 (by kernel_rfl) rfl #[.pointer (some ⟨gt, 0, none⟩), .int .u8 (a.toNat : Int), .int .u8 (y.toNat : Int)] (by rfl) rfl rfl (by simp only [List.map_toArray, List.map_cons, List.map_nil]; rfl) ?_
            with_reducible refine ((mul_calls gt a y _ htb)).mono ?_
            rintro e w6 ⟨rfl, hdr⟩
            refine ⟨_, rfl, ?_⟩
            obtain ⟨f1, f2, f3, f4, f5, f6⟩ := hstay.out w6 hdr
            have HF7 := Lib.hid (HFIN.out w6 hdr)
            refine hK.out _ _ ⟨f1, f2, f3, f4, f5⟩ (fun hHeld => ?_)
            clear hK K
            refine norm_ (a' := ?_) ?_ ?_
            rotate_left
            · show Act.put _ (some 45) _ = _
              simp only [Act.put, List.setIfInBounds_toArray, List.set_cons_zero, List.set_cons_succ, i64_w, i32_w]
              rfl
            refine pure_ (i := 18) (N := some 46) (v := ?_) (a' := ?_) #[true, true, true, true, true, true, true, true, true, true, true, true, true, true, true, true, true, true, true, false, false] rfl rfl (by kernel_rfl) (fun _ _ _ h => h) (Or.inl ⟨by rfl, ?_⟩) ?_ ?_
            rotate_left
            · intro w'
              go_simp
              with_reducible rfl
            rotate_left
            · simp only [Act.put, List.setIfInBounds_toArray, List.set_cons_zero, List.set_cons_succ, i64_w, i32_w]
              rfl
            refine pure_ (i := 19) (N := some 47) (v := ?_) (a' := ?_) #[true, true, true, true, true, true, true, true, true, true, true, true, true, true, true, true, true, true, true, true, false] rfl rfl (by kernel_rfl) (fun _ _ _ h => h) (Or.inl ⟨by rfl, ?_⟩) ?_ ?_
            rotate_left
            · intro w'
              go_simp
              with_reducible rfl
            rotate_left
            · simp only [Act.put, List.setIfInBounds_toArray, List.set_cons_zero, List.set_cons_succ, i64_w, i32_w]
              rfl
            refine last_ (i := 20) (N := none) #[true, true, true, true, true, true, true, true, true, true, true, true, true, true, true, true, true, true, true, true, true] rfl rfl (by kernel_rfl) (by decide) (fun K hK => ?_)
            refine skip_ (w1 := ?_) (by rfl) rfl ?_ ?_
            rotate_left
            · go_simp
              rfl
            refine hK.out _ _ ?_
            clear hK K
            refine done_ (by kernel_rfl) ?_
            go_wp2
            exact ⟨⟨j + 1, by omega, by go_num, HF7.out.1, HF7.out.2⟩, by simp [intOf]; omega⟩
          · obtain rfl : d = j := by omega
            have hdone : Wk wr g gt gm ga gs gb n c d p q (addRow ti src a M) (addRow ti src a S) := hwj.congr (fun _ _ _ _ => rfl) (fun x' _ b' hb' => addTo_done a S x' b' hb')
            have HD := Lib.hid hdone
            have HCD := Lib.hid hcj
            clear hwj hcj hdone
            go_wp2_with fail
            exact ⟨⟨1 + 1, by omega, by go_num, by simpa using HD.out, HCD.out⟩, by simp [intOf]⟩
    · obtain rfl : k = 2 := by omega
      have hw : Wk wr g gt gm ga gs gb n c d p q (addRow ti src a M) (addRow ti src a S) := by simpa using hw
      have hch2 : Chg (WF gm ga gs gb) w wr := (Chg.of_below (F := WF gm ga gs gb) HB3.out).trans hch (fun _ hx => .inl hx)
      have HW := Lib.hid hw
      have HCH := Lib.hid hch2
      clear hw hch hch2 hlt hk
      go_wp2_with fail
      go_end0
      exact ⟨rfl, HW.out, HCH.out⟩
end Go.Proofs.Ytoijjlpkoniipaa
