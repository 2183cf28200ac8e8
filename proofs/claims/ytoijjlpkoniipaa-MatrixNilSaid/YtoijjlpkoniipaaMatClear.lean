/- Matrices: clear. -/
import Derived.Test.YtoijjlpkoniipaaMatAddW
namespace Go.Proofs.Ytoijjlpkoniipaa
open Go.RowKit Go.Proofs.YtoijjlpkoniipaaW.PrintWords Go.Proofs.YtoijjlpkoniipaaW.PrintLast Gf Lin
set_option linter.unusedSimpArgs false
/-- What clear leaves. -/
def ClrPost (w : World) (g gt gm ga gs gb n c d : Nat) (M S : Lin.M) (row col : Nat) (b : Bool) (w' : World) : Prop :=
  ∃ p' q' M' S', Wk w' g gt gm ga gs gb n c d p' q' M' S' ∧ Chg (WF gm ga gs gb) w w' ∧
    ((b = false ∧ M' = M ∧ S' = S ∧ ∀ a, row ≤ a → a < n → M a col = 0) ∨ (b = true ∧ ∃ at_, row ≤ at_ ∧ at_ < n ∧ M at_ col ≠ 0 ∧ M' = Lin.clr n row at_ col M M ∧ S' = Lin.clr n row at_ col M S))
set_option maxHeartbeats 4000000 in
set_option maxRecDepth 100000 in
theorem clear_calls {w : World} {g gt gm ga gs gb n c d : Nat} {p q : Nat → Nat} {M S : Lin.M} (h : Wk w g gt gm ga gs gb n c d p q M S) {row col : Nat} (hr : row < n) (hc : col < c) :
    Calls Try.prog 71 #[.pointer (some ⟨g, 0, none⟩), .int .i64 (row : Int), .int .i64 (col : Int)] w fun e w' => ∃ b, e = .returned (.bool b) ∧ ClrPost w g gt gm ga gs gb n c d M S row col b w' := by
  have H := Lib.hid h
  have n2 : n ≤ 255 := h.n1.2
  have c2 : c ≤ 255 := h.c1.2
  have c1 := h.c1'
  clear h
  go_enter Try.func71, Try.ntmps71
  go_wp2_with fail
  go_loopw [7] (fun x wr => ∃ t : Nat, row ≤ t ∧ t ≤ n ∧ x = .int .i64 t ∧ wr = w ∧ ∀ a, row ≤ a → a < t → M a col = 0) (fun x _ => n - (intOf x).toNat)
  case atStart => exact ⟨row, Nat.le_refl _, by omega, rfl, rfl, fun a h1 h2 => by omega⟩
  case round =>
    obtain ⟨t, ht1, ht2, rfl, rfl, hz⟩ := hrel
    by_cases hlt : t < n
    · have a1 := H.out.m.rows t hlt
      have a2 := H.out.m.cells t hlt col hc
      obtain ⟨o, ho⟩ : ∃ o, o = p t * c := ⟨_, rfl⟩
      rw [← ho] at a1 a2
      have i1 : (0 : Int) ≤ (t : Int) := by omega
      have i2 : (t : Int) < (n : Int) := by omega
      have i3 : (0 : Int) ≤ (col : Int) := by omega
      have i4 : (col : Int) < (c : Int) := by omega
      have HO := Lib.hid ho
      have HZ := Lib.hid hz
      clear ho hz
      by_cases hx : M t col = 0
      · have tb := b_zero hx
        have HX := Lib.hid hx
        clear hx
        go_wp2_with fail
        exact ⟨⟨t + 1, by omega, by omega, by go_num, trivial, fun a h1 h2 => by
          by_cases hat : a = t
          · rw [hat]; exact HX.out
          · exact HZ.out a h1 (by omega)⟩, by simp [intOf]; omega⟩
      · have tb := b_ne_zero hx
        have t3 : ((t : Int) == (n : Int)) = false := by simp; omega
        have hsw := swap_calls H.out hr hlt
        have HX := Lib.hid hx
        clear hx
        go_wp2_with fail
        refine hsw.mono ?_
        clear hsw
        rintro e w1 ⟨rfl, hw1, hch1⟩
        clear a1 a2 tb t3 c1 HO
        obtain ⟨o, ho⟩ : ∃ o, o = swp row t p row * c := ⟨_, rfl⟩
        obtain ⟨x, hx⟩ : ∃ x, x = M t col := ⟨_, rfl⟩
        have hx0 : x ≠ 0 := by rw [hx]; exact HX.out
        have h1 := hw1.c0
        have h2 := hw1.c1'
        have h3 := hw1.m.rows row hr
        have h4 := hw1.m.cells row hr col hc
        rw [show swapRow row t M row col = x by rw [hx]; unfold swapRow; rw [if_pos rfl], ← ho] at h4
        rw [← ho] at h3
        have bd : Below w1.heap.size w1 w1.drew := ⟨rfl, rfl, rfl, Nat.le_refl _, fun _ _ => rfl⟩
        have htb : Tab w1.drew gt := (hw1.below bd).tab
        have hstay0 : ∀ w6, Drawn0 w1.drew w6 → w6.cell? ⟨g, 0, none⟩ = some (.pointer (some ⟨gt, 0, none⟩)) ∧ w6.cell? ⟨g, 1, none⟩ = some (.slice (some ⟨gm, 0, none⟩) n n) ∧ w6.cell? ⟨gm, row, none⟩ = some (.slice (some ⟨ga, o, none⟩) c c) ∧ w6.cell? ⟨ga, o + col, none⟩ = some (.int .u8 (x.toNat : Int)) := fun w6 hd6 => by
          have hb6 := bd.trans hd6.below
          exact ⟨pw_cell_below hb6 h1, pw_cell_below hb6 h2, pw_cell_below hb6 h3, pw_cell_below hb6 h4⟩
        have hstay := Lib.hid hstay0
        have HW1 := Lib.hid hw1
        have HC1 := Lib.hid hch1
        have HXX := Lib.hid hx
        have j1 : (0 : Int) ≤ (row : Int) := by omega
        have j2 : (row : Int) < (n : Int) := by omega
        clear hstay0 hw1 hch1 hx ho
        go_wp2
        refine start_ (n := 20) (S := fun w' => w'.cell? ⟨g, 0, none⟩ = some (.pointer (some ⟨gt, 0, none⟩)) ∧ w'.cell? ⟨g, 1, none⟩ = some (.slice (some ⟨gm, 0, none⟩) n n) ∧ w'.cell? ⟨gm, row, none⟩ = some (.slice (some ⟨ga, o, none⟩) c c) ∧ w'.cell? ⟨ga, o + col, none⟩ = some (.int .u8 (x.toNat : Int))) (ds := []) #[false, false, false, false, false, false, false, false, false, false, false, false, false, false, false, false, false, false, false, false] (by kernel_rfl) rfl rfl ⟨h1, h2, h3, h4⟩ (fun hHeld => ?_)
        refine pure_ (i := 0) (N := some 46) (v := ?_) (a' := ?_) #[true, false, false, false, false, false, false, false, false, false, false, false, false, false, false, false, false, false, false, false] rfl rfl (by kernel_rfl) (fun _ _ _ h => h) (Or.inl ⟨by rfl, ?_⟩) ?_ ?_
        rotate_left
        · intro w'
          go_simp
          with_reducible rfl
        rotate_left
        · simp only [Act.put, List.setIfInBounds_toArray, List.set_cons_zero, List.set_cons_succ, i64_w, i32_w]
          rfl
        refine pure_ (i := 1) (N := some 47) (v := ?_) (a' := ?_) #[true, true, false, false, false, false, false, false, false, false, false, false, false, false, false, false, false, false, false, false] rfl rfl (by kernel_rfl) (fun _ _ _ h => h) (Or.inl ⟨by rfl, ?_⟩) ?_ ?_
        rotate_left
        · intro w'
          go_simp
          with_reducible rfl
        rotate_left
        · simp only [Act.put, List.setIfInBounds_toArray, List.set_cons_zero, List.set_cons_succ, i64_w, i32_w]
          rfl
        refine pure_ (i := 2) (N := some 48) (v := ?_) (a' := ?_) #[true, true, true, false, false, false, false, false, false, false, false, false, false, false, false, false, false, false, false, false] rfl rfl (by kernel_rfl) (fun _ _ _ h => h) (Or.inl ⟨by rfl, ?_⟩) ?_ ?_
        rotate_left
        · intro w'
          go_simp
          with_reducible rfl
        rotate_left
        · simp only [Act.put, List.setIfInBounds_toArray, List.set_cons_zero, List.set_cons_succ, i64_w, i32_w]
          rfl
        refine pure_ (i := 4) (N := some 50) (v := ?_) (a' := ?_) #[true, true, true, false, true, false, false, false, false, false, false, false, false, false, false, false, false, false, false, false] rfl rfl (by kernel_rfl) (fun _ _ _ h => h) (Or.inl ⟨by rfl, ?_⟩) ?_ ?_
        rotate_left
        · intro w'
          go_simp
          with_reducible rfl
        rotate_left
        · simp only [Act.put, List.setIfInBounds_toArray, List.set_cons_zero, List.set_cons_succ, i64_w, i32_w]
          rfl
        refine pure_ (i := 5) (N := some 51) (v := ?_) (a' := ?_) #[true, true, true, false, true, true, false, false, false, false, false, false, false, false, false, false, false, false, false, false] rfl rfl (by kernel_rfl) (fun _ _ _ h => h) (Or.inl ⟨by rfl, ?_⟩) ?_ ?_
        rotate_left
        · intro w'
          go_simp
          with_reducible rfl
        rotate_left
        · simp only [Act.put, List.setIfInBounds_toArray, List.set_cons_zero, List.set_cons_succ, i64_w, i32_w]
          rfl
        refine pure_ (i := 6) (N := some 52) (v := ?_) (a' := ?_) #[true, true, true, false, true, true, true, false, false, false, false, false, false, false, false, false, false, false, false, false] rfl rfl (by kernel_rfl) (fun _ _ _ h => h) (Or.inl ⟨by rfl, ?_⟩) ?_ ?_
        rotate_left
        · intro w'
          go_simp
          with_reducible rfl
        rotate_left
        · simp only [Act.put, List.setIfInBounds_toArray, List.set_cons_zero, List.set_cons_succ, i64_w, i32_w]
          rfl
        refine pure_ (i := 8) (N := some 54) (v := ?_) (a' := ?_) #[true, true, true, false, true, true, true, false, true, false, false, false, false, false, false, false, false, false, false, false] rfl rfl (by kernel_rfl) (fun _ _ _ h => h) (Or.inl ⟨by rfl, ?_⟩) ?_ ?_
        rotate_left
        · intro w'
          go_simp
          with_reducible rfl
        rotate_left
        · simp only [Act.put, List.setIfInBounds_toArray, List.set_cons_zero, List.set_cons_succ, i64_w, i32_w]
          rfl
        refine pure_ (i := 11) (N := some 57) (v := ?_) (a' := ?_) #[true, true, true, false, true, true, true, false, true, false, false, true, false, false, false, false, false, false, false, false] rfl rfl (by kernel_rfl) (fun _ _ _ h => h) (Or.inl ⟨by rfl, ?_⟩) ?_ ?_
        rotate_left
        · intro w'
          go_simp
          with_reducible rfl
        rotate_left
        · simp only [Act.put, List.setIfInBounds_toArray, List.set_cons_zero, List.set_cons_succ, i64_w, i32_w]
          rfl
        refine take_ (i := 3) (N := some 49) (v := ?_) (a' := ?_) #[true, true, true, true, true, true, true, false, true, false, false, true, false, false, false, false, false, false, false, false] rfl rfl (by kernel_rfl) (fun _ _ _ h => h) (Or.inl ⟨by rfl, ?_⟩) hHeld ?_ ?_
        rotate_left
        · rintro w' ⟨s0, s1, s2, s3⟩
          go_simp
          with_reducible rfl
        rotate_left
        · simp only [Act.put, List.setIfInBounds_toArray, List.set_cons_zero, List.set_cons_succ, i64_w, i32_w]
          rfl
        refine take_ (i := 7) (N := some 53) (v := ?_) (a' := ?_) #[true, true, true, true, true, true, true, true, true, false, false, true, false, false, false, false, false, false, false, false] rfl rfl (by kernel_rfl) (fun _ _ _ h => h) (Or.inl ⟨by rfl, ?_⟩) hHeld ?_ ?_
        rotate_left
        · rintro w' ⟨s0, s1, s2, s3⟩
          go_simp
          with_reducible rfl
        rotate_left
        · simp only [Act.put, List.setIfInBounds_toArray, List.set_cons_zero, List.set_cons_succ, i64_w, i32_w]
          rfl
        refine pure_ (i := 9) (N := some 55) (v := ?_) (a' := ?_) #[true, true, true, true, true, true, true, true, true, true, false, true, false, false, false, false, false, false, false, false] rfl rfl (by kernel_rfl) (fun _ _ _ h => h) (Or.inl ⟨by rfl, ?_⟩) ?_ ?_
        rotate_left
        · intro w'
          go_simp
          with_reducible rfl
        rotate_left
        · simp only [Act.put, List.setIfInBounds_toArray, List.set_cons_zero, List.set_cons_succ, i64_w, i32_w]
          rfl
        refine take_ (i := 10) (N := some 56) (v := ?_) (a' := ?_) #[true, true, true, true, true, true, true, true, true, true, true, true, false, false, false, false, false, false, false, false] rfl rfl (by kernel_rfl) (fun _ _ _ h => h) (Or.inl ⟨by rfl, ?_⟩) hHeld ?_ ?_
        rotate_left
        · rintro w' ⟨s0, s1, s2, s3⟩
          go_simp
          with_reducible rfl
        rotate_left
        · simp only [Act.put, List.setIfInBounds_toArray, List.set_cons_zero, List.set_cons_succ, i64_w, i32_w]
          rfl
        refine pure_ (i := 12) (N := some 58) (v := ?_) (a' := ?_) #[true, true, true, true, true, true, true, true, true, true, true, true, true, false, false, false, false, false, false, false] rfl rfl (by kernel_rfl) (fun _ _ _ h => h) (Or.inl ⟨by rfl, ?_⟩) ?_ ?_
        rotate_left
        · intro w'
          go_simp
          with_reducible rfl
        rotate_left
        · simp only [Act.put, List.setIfInBounds_toArray, List.set_cons_zero, List.set_cons_succ, i64_w, i32_w]
          rfl
        refine take_ (i := 13) (N := some 59) (v := ?_) (a' := ?_) #[true, true, true, true, true, true, true, true, true, true, true, true, true, true, false, false, false, false, false, false] rfl rfl (by kernel_rfl) (fun _ _ _ h => h) (Or.inl ⟨by rfl, ?_⟩) hHeld ?_ ?_
        rotate_left
        · rintro w' ⟨s0, s1, s2, s3⟩
          go_simp
          with_reducible rfl
        rotate_left
        · simp only [Act.put, List.setIfInBounds_toArray, List.set_cons_zero, List.set_cons_succ, i64_w, i32_w]
          rfl
        refine one_ (i := 14) (N := some 60) #[true, true, true, true, true, true, true, true, true, true, true, true, true, true, true, false, false, false, false, false] rfl rfl (by kernel_rfl) (by decide) (fun K hK => ?_)
        refine goes_ Try.func27 (by kernel_rfl) rfl #[.pointer (some ⟨gt, 0, none⟩), .int .u8 (x.toNat : Int)] (by rfl) rfl rfl (by simp only [List.map_toArray, List.map_cons, List.map_nil]; rfl) ?_
        with_reducible refine ((inv_calls gt x _ htb hx0)).mono ?_
        rintro e w6 ⟨rfl, hdr⟩
        refine ⟨_, rfl, ?_⟩
        obtain ⟨f1, f2, f3, f4⟩ := hstay.out w6 hdr
        refine hK.out _ _ ⟨f1, f2, f3, f4⟩ (fun hHeld => ?_)
        clear hK K
        refine norm_ (a' := ?_) ?_ ?_
        rotate_left
        · show Act.put _ (some 60) _ = _
          simp only [Act.put, List.setIfInBounds_toArray, List.set_cons_zero, List.set_cons_succ, i64_w, i32_w]
          rfl
        refine pure_ (i := 15) (N := some 45) (v := ?_) (a' := ?_) #[true, true, true, true, true, true, true, true, true, true, true, true, true, true, true, true, false, false, false, false] rfl rfl (by kernel_rfl) (fun _ _ _ h => h) (Or.inl ⟨by rfl, ?_⟩) ?_ ?_
        rotate_left
        · intro w'
          go_simp
          with_reducible rfl
        rotate_left
        · simp only [Act.put, List.setIfInBounds_toArray, List.set_cons_zero, List.set_cons_succ, i64_w, i32_w]
          rfl
        refine pure_ (i := 16) (N := some 61) (v := ?_) (a' := ?_) #[true, true, true, true, true, true, true, true, true, true, true, true, true, true, true, true, true, false, false, false] rfl rfl (by kernel_rfl) (fun _ _ _ h => h) (Or.inl ⟨by rfl, ?_⟩) ?_ ?_
        rotate_left
        · intro w'
          go_simp
          with_reducible rfl
        rotate_left
        · simp only [Act.put, List.setIfInBounds_toArray, List.set_cons_zero, List.set_cons_succ, i64_w, i32_w]
          rfl
        refine pure_ (i := 17) (N := some 62) (v := ?_) (a' := ?_) #[true, true, true, true, true, true, true, true, true, true, true, true, true, true, true, true, true, true, false, false] rfl rfl (by kernel_rfl) (fun _ _ _ h => h) (Or.inl ⟨by rfl, ?_⟩) ?_ ?_
        rotate_left
        · intro w'
          go_simp
          with_reducible rfl
        rotate_left
        · simp only [Act.put, List.setIfInBounds_toArray, List.set_cons_zero, List.set_cons_succ, i64_w, i32_w]
          rfl
        refine pure_ (i := 18) (N := some 8) (v := ?_) (a' := ?_) #[true, true, true, true, true, true, true, true, true, true, true, true, true, true, true, true, true, true, true, false] rfl rfl (by kernel_rfl) (fun _ _ _ h => h) (Or.inl ⟨by rfl, ?_⟩) ?_ ?_
        rotate_left
        · intro w'
          go_simp
          with_reducible rfl
        rotate_left
        · simp only [Act.put, List.setIfInBounds_toArray, List.set_cons_zero, List.set_cons_succ, i64_w, i32_w]
          rfl
        refine pure_ (i := 19) (N := some 9) (v := ?_) (a' := ?_) #[true, true, true, true, true, true, true, true, true, true, true, true, true, true, true, true, true, true, true, true] rfl rfl (by kernel_rfl) (fun _ _ _ h => h) (Or.inl ⟨by rfl, ?_⟩) ?_ ?_
        rotate_left
        · intro w'
          go_simp
          with_reducible rfl
        rotate_left
        · simp only [Act.put, List.setIfInBounds_toArray, List.set_cons_zero, List.set_cons_succ, i64_w, i32_w]
          rfl
        refine done_ (by kernel_rfl) ?_
        have hw6 := (HW1.out.below bd).below hdr.below
        have hch6 : Chg (WF gm ga gs gb) wr w6 := HC1.out.trans (Chg.of_below (F := WF gm ga gs gb) (bd.trans hdr.below)) (fun _ hx => .inl hx)
        have hsc := wscale_calls hw6 hr (gi x)
        have HC6 := Lib.hid hch6
        clear hw6 hch6 hdr bd htb h1 h2 h3 h4 f1 f2 f3 f4 hHeld
        go_wp2_with fail
        refine hsc.mono ?_
        clear hsc
        rintro e w7 ⟨rfl, hw7, hch7⟩
        have hch8 := HC6.out.trans hch7 (fun _ hx => .inl hx)
        have hw8 : Wk w7 g gt gm ga gs gb n c d (swp row t p) (swp row t q) (Lin.part row 0 (fun a => Lin.pre row t col M M a col) (Lin.pre row t col M M)) (Lin.part row 0 (fun a => Lin.pre row t col M M a col) (Lin.pre row t col M S)) := by
          rw [part_zero, part_zero]
          unfold Lin.pre
          rw [← HXX.out]
          exact hw7
        have k1 := hw8.c1'
        have HW8 := Lib.hid hw8
        have HC8 := Lib.hid hch8
        clear hw7 hch7 hw8 hch8
        go_wp2_with fail
        obtain ⟨W, hW⟩ : ∃ W, W = (fun a => Lin.pre row t col M M a col) := ⟨_, rfl⟩
        obtain ⟨M1, hM1⟩ : ∃ M1, M1 = Lin.pre row t col M M := ⟨_, rfl⟩
        obtain ⟨S1, hS1⟩ : ∃ S1, S1 = Lin.pre row t col M S := ⟨_, rfl⟩
        obtain ⟨p1, hp1⟩ : ∃ p1, p1 = swp row t p := ⟨_, rfl⟩
        obtain ⟨q1, hq1⟩ : ∃ q1, q1 = swp row t q := ⟨_, rfl⟩
        rw [← hW, ← hM1, ← hS1, ← hp1, ← hq1] at HW8
        have hWM : ∀ a, W a = M1 a col := fun a => by rw [hW, hM1]
        have HWM := Lib.hid hWM
        have HF : Hid (Lin.part row n W M1 = Lin.clr n row t col M M ∧ Lin.part row n W S1 = Lin.clr n row t col M S) := Lib.hid ⟨by rw [hW, hM1]; rfl, by rw [hW, hS1]; rfl⟩
        clear hW hM1 hS1 hp1 hq1 hWM k1
        obtain ⟨wo, hwo⟩ : ∃ wo, wo = wr := ⟨_, rfl⟩
        subst hwo
        go_loopw [72] (fun z wr => ∃ i : Nat, i ≤ n ∧ z = .int .i64 i ∧ Wk wr g gt gm ga gs gb n c d p1 q1 (Lin.part row i W M1) (Lin.part row i W S1) ∧ Chg (WF gm ga gs gb) wo wr) (fun z _ => n - (intOf z).toNat)
        case atStart => exact ⟨0, by omega, rfl, HW8.out, HC8.out⟩
        case round =>
          obtain ⟨i, hi, rfl, hwi, hci⟩ := hrel
          by_cases hin : i < n
          · have l1 : (0 : Int) ≤ (i : Int) := by omega
            have l2 : (i : Int) < (n : Int) := by omega
            by_cases hir : i = row
            · have tn : ((i : Int) != (row : Int)) = false := by simp [hir]
              rw [show Lin.part row i W M1 = Lin.part row (i + 1) W M1 by rw [hir, part_succ_row], show Lin.part row i W S1 = Lin.part row (i + 1) W S1 by rw [hir, part_succ_row]] at hwi
              have HWI := Lib.hid hwi
              have HCI := Lib.hid hci
              clear hwi hci hir
              go_wp2_with fail
              exact ⟨⟨i + 1, by omega, by go_num, HWI.out, HCI.out⟩, by simp [intOf]; omega⟩
            · have tn : ((i : Int) != (row : Int)) = true := by simp; omega
              have m1 := hwi.c1'
              have m2 := hwi.m.rows i hin
              have m3 := hwi.m.cells i hin col hc
              rw [part_from row i W M1 (Nat.le_refl _), ← HWM.out] at m3
              have had := wadd_calls hwi hin hr hir (W i)
              rw [← part_succ hir, ← part_succ hir] at had
              obtain ⟨o3, ho3⟩ : ∃ o3, o3 = p1 i * c := ⟨_, rfl⟩
              rw [← ho3] at m2 m3
              have HCI := Lib.hid hci
              have HIR := Lib.hid hir
              clear hwi hci hir ho3
              go_wp2_with fail
              refine had.mono ?_
              clear had
              rintro e w9 ⟨rfl, hw9, hch9⟩
              have hc9 := HCI.out.trans hch9 (fun _ hx => .inl hx)
              have HW9 := Lib.hid hw9
              have HC9 := Lib.hid hc9
              clear hw9 hch9 hc9 m1 m2 m3
              go_wp2_with fail
              exact ⟨⟨i + 1, by omega, by go_num, HW9.out, HC9.out⟩, by simp [intOf]; omega⟩
          · obtain rfl : n = i := by omega
            rw [HF.out.1, HF.out.2] at hwi
            have HWI := Lib.hid hwi
            have HCI := Lib.hid hci
            clear hwi hci
            go_wp2_with fail
            go_ret
            exact ⟨true, rfl, p1, q1, _, _, HWI.out, HCI.out, .inr ⟨rfl, t, ht1, hlt, HX.out, rfl, rfl⟩⟩
    · obtain rfl : n = t := by omega
      have HZ := Lib.hid hz
      clear hz
      go_wp2_with fail
      go_ret
      exact ⟨false, rfl, p, q, M, S, H.out, Chg.refl _ _, .inl ⟨rfl, rfl, rfl, HZ.out⟩⟩
end Go.Proofs.Ytoijjlpkoniipaa
