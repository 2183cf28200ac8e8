/- The document's disk: New. -/
import Derived.Test.YtomihbanpjedeaaRefDo2
namespace Go.Proofs.Ytomihbanpjedeaa
open Go.RowKit Go.Proofs.YtomihbanpjedeaaW.PrintLast
set_option linter.unusedSimpArgs false
theorem exec_make {P : Program} {w w' : World} {ρ : Operand → Value} {o : Oper} {t : TypeId} {x y : Operand} {vx vy v : Value} (ho : o.op = .makeSlice t x y) (hx : ρ x = vx) (hy : ρ y = vy) (hr : (Instr.makeSlice t vx vy).run P w = .ok v w') : (execOp ρ o).run P w = .ok (.value v) w' := by
  unfold execOp
  simp only [ho, hx, hy, Sem.run_bind, Sem.run_pure, Result.andThen_ok, hr]
theorem build_rows (v : Value) (hv : v.oneCell' = true) (W : World) : (Instr.buildSlice 56 1 #[(0, v)]).run Try.prog W = .ok (.slice (some ⟨W.heap.size, 0, none⟩) 1 1) (W.alloc (.cells #[v] 41)) := by
  obtain ⟨i, hi, h⟩ := Option.map_eq_some_iff.1 info41
  simp only [Prod.mk.injEq] at h
  have hn : ∀ cs, (newRow 41 cs).run Try.prog W = .ok ⟨W.heap.size, 0, none⟩ (W.alloc (.cells cs 41)) := fun cs => by simp [newRow]
  have hsz : (sizeOf 41).run Try.prog W = .ok 1 W := by simp [sizeOf, typeInfo, hi, h.2.1]
  have hzv : (zeroValue 41).run Try.prog W = .ok (.slice none 0 0) W := by simp [zeroValue, typeInfo, hi, h.1]
  have hc : v.cells = #[v] := by cases v <;> first | rfl | simp [Value.oneCell'] at hv
  simp only [Instr.buildSlice, Sem.run_bind, run_underlying Try.underlying56, Result.andThen, hsz]
  rw [if_neg (by omega), if_neg (by omega)]
  simp only [Sem.run_bind, hzv, Result.andThen, Sem.run_pure]
  simp [Instr.fill, hc, hn, Result.andThen, Sem.run_bind]
  congr 2
  apply Array.ext
  · simp
  · intro i h1 h2
    obtain rfl : i = 0 := by simp at h2; omega
    simp
def Z64c : Array Value := madeCells #[.int .u8 0] 64
theorem Z64c_list : Z64c.toList = zeros 64 := by unfold Z64c; rw [toList_madeCells_one]; rfl
/-- Behind k sectors made. -/
structure Mn (w wr : World) (k : Nat) (v0 : Value) (rows : List Value) : Prop where
  blk : Blk wr w.heap.size v0 (.slice none 0 0) (-1) false
  own : wr.ownsRow w.heap.size 41 1 v0 k rows
  nil : k = 0 → v0 = .slice none 0 0
  rows' : ∀ (i : Nat) (u : Value), rows[i]? = some u → ∃ B : Nat, u = .slice (some ⟨B, 0, none⟩) 64 64 ∧ w.heap.size ≤ B ∧ wr.heap[B]? = some (.cells Z64c 5)
  bel : Below w.heap.size w wr
set_option maxHeartbeats 2000000 in
set_option maxRecDepth 100000 in
theorem ref_new (z : Int) (n : Nat) (hn : n ≤ 2048) (hz : max 0 (min z 2048) = (n : Int)) (w : World) :
    Calls Try.prog 25 #[.int .i64 z] w fun e w' => ∃ x R F, e = .returned (.pointer (some ⟨x, 0, none⟩)) ∧ Rd w w' R F x n (St.new n) ∧ Below w.heap.size w w' := by
  have hmk0 : ∀ W : World, (Instr.makeSlice 41 (.int .i64 64) (.int .i64 64)).run Try.prog W = .ok (.slice (some ⟨W.heap.size, 0, none⟩) 64 64) (W.alloc (.cells Z64c 5)) := by
    obtain ⟨i5, hi5, h5⟩ := Option.map_eq_some_iff.1 info5
    simp only [Prod.mk.injEq] at h5
    intro W
    have := run_make (P := Try.prog) W 41 5 i5 _ Try.underlying41 hi5 h5.1 .i64 .i64 64 64 (by omega) (Int.le_refl _) (by rw [h5.2.2]; omega) (by omega)
    rw [h5.2.1] at this
    simpa [Value.cells, Z64c] using this
  have HMK := Lib.hid hmk0
  have hb0 : Below w.heap.size w (w.alloc (.cells #[.slice none 0 0, .slice none 0 0, .int .i64 (-1), .bool false] 61)) := (Below.refl _ _).alloc (Nat.le_refl _) _
  have m0 : Mn w (w.alloc (.cells #[.slice none 0 0, .slice none 0 0, .int .i64 (-1), .bool false] 61)) 0 (.slice none 0 0) [] := ⟨heap_alloc_new w _, World.ownsRow_nil _ _ _ _, fun _ => rfl, fun i u hi => by simp at hi, hb0⟩
  have M0 := Lib.hid m0
  clear m0 hb0 hmk0
  go_enter Try.func25, Try.ntmps25
  go_wp2_with fail
  go_loopw [4] (fun i wr => ∃ k : Nat, k ≤ n ∧ i = .int .i64 k ∧ ∃ v0 rows, Mn w wr k v0 rows) (fun i _ => n - (intOf i).toNat)
  case atStart => exact ⟨0, by omega, rfl, _, _, M0.out⟩
  case round =>
    obtain ⟨k, hk, rfl, v0, rows, hm⟩ := hrel
    obtain ⟨mb, mo, ml, mr, mbel⟩ := hm
    have c0 := mb.c0
    by_cases hlt : k < n
    · have t0 : decide ((k : Int) < z) = true := by simp; omega
      have t1 : decide ((k : Int) < 2048) = true := by simp; omega
      have hmk := HMK.out wr.drew
      have hb1 : Below wr.heap.size wr (wr.drew.alloc (.cells Z64c 5)) := (Below.drw (Below.refl _ _)).alloc (Nat.le_refl _) _
      have hbs := build_rows (.slice (some ⟨wr.drew.heap.size, 0, none⟩) 64 64) rfl (wr.drew.alloc (.cells Z64c 5))
      have hb2 : Below wr.heap.size wr ((wr.drew.alloc (.cells Z64c 5)).alloc (.cells #[.slice (some ⟨wr.drew.heap.size, 0, none⟩) 64 64] 41)) := hb1.alloc hb1.size _
      obtain ⟨x, hx⟩ : ∃ x, x = w.heap.size := ⟨_, rfl⟩
      have hxl : x < wr.heap.size := by rw [hx]; exact mb.lt
      rw [← hx] at c0
      have ha : wr.drew.cell? ⟨x, 0, none⟩ = some v0 := c0
      have hb5 := pw_cell_below hb1 c0
      have hb6 := pw_cell_below hb2 c0
      have mo2 : ((wr.drew.alloc (.cells Z64c 5)).alloc (.cells #[.slice (some ⟨wr.drew.heap.size, 0, none⟩) 64 64] 41)).ownsRow w.heap.size 41 1 v0 k rows := own_move mo (fun g hg => by
        obtain ⟨cu, hcu⟩ := own_type mo hg
        exact hb2.block g (Array.getElem?_eq_some_iff.1 hcu).1)
      obtain ⟨v', w5, happ, o5, g5⟩ := append_rows mo2 (Nat.le_trans mbel.size hb2.size) (A := some ⟨(wr.drew.alloc (.cells Z64c 5)).heap.size, 0, none⟩) (m := 1) (c := 1) (news := [.slice (some ⟨wr.drew.heap.size, 0, none⟩) 64 64]) rfl (by simp [Value.oneCell']) (fun b hb j u hj => by
        cases hb
        rw [Addr.add_lit, Nat.zero_add, cell_of_row _ _ j _ _ _ (heap_alloc_new _ _)]
        simpa using hj) (fun h => by cases h) (by omega) 56
      obtain ⟨A5, n5, c5, rfl⟩ : ∃ A5 n5 c5, v' = .slice A5 n5 c5 := by
        rcases o5.2 with ⟨e, _⟩ | ⟨g, cap, cur, e, _⟩
        · exact ⟨_, _, _, e⟩
        · exact ⟨_, _, _, e⟩
      have hv0x : v0.ownBlock ≠ some x := fun e => by
        obtain ⟨cu, hcu⟩ := own_type mo e
        exact type_ne hcu mb (by decide) hx
      have hxs2 := hb2.size
      have hB2 : Blk ((wr.drew.alloc (.cells Z64c 5)).alloc (.cells #[.slice (some ⟨wr.drew.heap.size, 0, none⟩) 64 64] 41)) x v0 (.slice none 0 0) (-1) false := by
        have := mb.below hb2
        rwa [← hx] at this
      have hB5 : Blk w5 x v0 (.slice none 0 0) (-1) false := (g5.block x (by omega) (fun e => hv0x e.symm)).trans hB2
      have hcell5 := hB5.c0
      have hfro5 := hB5.fz 0
      have hfin : Mn w (w5.setCell ⟨x, 0, none⟩ (.slice A5 n5 c5)) (k + 1) (.slice A5 n5 c5) (rows ++ [.slice (some ⟨wr.drew.heap.size, 0, none⟩) 64 64]) := by
        have hset : ∀ i, i ≠ x → (w5.setCell ⟨x, 0, none⟩ (.slice A5 n5 c5)).heap[i]? = w5.heap[i]? := fun i hi => Below.heap_setCell _ _ _ i hi
        have hsz5 := g5.size
        have hgrow := mbel.size
        refine ⟨?_, own_move o5 (fun g hg => hset g ?_), fun h => by omega, fun i u hi => ?_, ?_⟩
        · rw [← hx]; exact hB5.s0 _
        · obtain ⟨cu, hcu⟩ := own_type o5 hg
          exact type_ne hcu hB5 (by decide)
        · rw [List.getElem?_append] at hi
          split at hi
          · obtain ⟨B, e, h1, h2⟩ := mr i u hi
            have hBl := (Array.getElem?_eq_some_iff.1 h2).1
            refine ⟨B, e, h1, (hset B ?_).trans ((g5.block B (by omega) ?_).trans ((hb2.block B hBl).trans h2))⟩
            · rw [hx]; exact type_ne h2 mb (by decide)
            · intro q
              obtain ⟨cu, hcu⟩ := own_type mo q.symm
              exact type_ne h2 hcu (by decide) rfl
          · have hi0 : i - rows.length = 0 := by
              have := (List.getElem?_eq_some_iff.1 hi).1
              simpa using this
            rw [hi0] at hi
            obtain rfl : Value.slice (some ⟨wr.drew.heap.size, 0, none⟩) 64 64 = u := by simpa using hi
            have hnewb : ((wr.drew.alloc (.cells Z64c 5)).alloc (.cells #[.slice (some ⟨wr.drew.heap.size, 0, none⟩) 64 64] 41)).heap[wr.heap.size]? = some (.cells Z64c 5) :=
              (Below.heap_alloc _ _ _ (by simp)).trans (heap_alloc_new wr.drew _)
            refine ⟨wr.heap.size, rfl, mbel.size, (hset _ (by omega)).trans ((g5.block _ (by simp at hsz5 ⊢; omega) ?_).trans hnewb)⟩
            intro q
            obtain ⟨cu, hcu⟩ := own_type mo2 q.symm
            exact type_ne hnewb hcu (by decide) rfl
        · have h5 : Below w.heap.size w w5 := (mbel.trans (hb2.mono mbel.size)).grown g5 (by omega) (fun g hg => (mo.lt g hg).1)
          exact Below.setCell h5 (by show w.heap.size ≤ x; omega) _
      have HF := Lib.hid hfin
      clear hfin hB5 hB2 hxs2 hv0x o5 g5 mo2 hb2 hb1 mb mo ml mr mbel
      subst hx
      go_wp2
      refine start_ (n := 11) (S := fun w' => w'.cell? ⟨w.heap.size, 0, none⟩ = some v0) (ds := [7, 10]) #[false, false, false, false, false, false, false, false, false, false, false] (by kernel_rfl) rfl rfl (ha) (fun hHeld => ?_)
      refine pure_ (i := 0) (N := some 16) (v := ?_) (a' := ?_) #[true, false, false, false, false, false, false, false, false, false, false] rfl rfl (by kernel_rfl) (fun _ _ _ h => h) (Or.inl ⟨by rfl, ?_⟩) ?_ ?_
      rotate_left
      · intro w'
        go_simp
        with_reducible rfl
      rotate_left
      · simp only [Act.put, List.setIfInBounds_toArray, List.set_cons_zero, List.set_cons_succ, i64_w, i32_w]
        rfl
      refine pure_ (i := 1) (N := some 17) (v := ?_) (a' := ?_) #[true, true, false, false, false, false, false, false, false, false, false] rfl rfl (by kernel_rfl) (fun _ _ _ h => h) (Or.inl ⟨by rfl, ?_⟩) ?_ ?_
      rotate_left
      · intro w'
        go_simp
        with_reducible rfl
      rotate_left
      · simp only [Act.put, List.setIfInBounds_toArray, List.set_cons_zero, List.set_cons_succ, i64_w, i32_w]
        rfl
      refine pure_ (i := 2) (N := some 18) (v := ?_) (a' := ?_) #[true, true, true, false, false, false, false, false, false, false, false] rfl rfl (by kernel_rfl) (fun _ _ _ h => h) (Or.inl ⟨by rfl, ?_⟩) ?_ ?_
      rotate_left
      · intro w'
        go_simp
        with_reducible rfl
      rotate_left
      · simp only [Act.put, List.setIfInBounds_toArray, List.set_cons_zero, List.set_cons_succ, i64_w, i32_w]
        rfl
      refine pure_ (i := 3) (N := some 19) (v := ?_) (a' := ?_) #[true, true, true, true, false, false, false, false, false, false, false] rfl rfl (by kernel_rfl) (fun _ _ _ h => h) (Or.inl ⟨by rfl, ?_⟩) ?_ ?_
      rotate_left
      · intro w'
        go_simp
        with_reducible rfl
      rotate_left
      · simp only [Act.put, List.setIfInBounds_toArray, List.set_cons_zero, List.set_cons_succ, i64_w, i32_w]
        rfl
      refine take_ (i := 4) (N := some 20) (v := ?_) (a' := ?_) #[true, true, true, true, true, false, false, false, false, false, false] rfl rfl (by kernel_rfl) (fun _ _ _ h => h) (Or.inl ⟨by rfl, ?_⟩) hHeld ?_ ?_
      rotate_left
      · intro w' s0
        go_simp
        with_reducible rfl
      rotate_left
      · simp only [Act.put, List.setIfInBounds_toArray, List.set_cons_zero, List.set_cons_succ, i64_w, i32_w]
        rfl
      refine one_ (i := 5) (N := some 21) #[true, true, true, true, true, true, false, false, false, false, false] rfl rfl (by kernel_rfl) (by decide) (fun K hK => ?_)
      refine value_ (w1 := ?_) (v := ?_) (by rfl) rfl ?_ ?_
      rotate_left 2
      · rw [exec_make rfl (by rfl) (by rfl) hmk]
      refine hK.out _ _ (hb5) (fun hHeld => ?_)
      clear hK K
      refine norm_ (a' := ?_) ?_ ?_
      rotate_left
      · show Act.put _ (some 21) _ = _
        simp only [Act.put, List.setIfInBounds_toArray, List.set_cons_zero, List.set_cons_succ, i64_w, i32_w]
        rfl
      refine one_ (i := 6) (N := some 22) #[true, true, true, true, true, true, true, false, false, false, false] rfl rfl (by kernel_rfl) (by decide) (fun K hK => ?_)
      refine value_ (w1 := ?_) (v := ?_) (by rfl) rfl ?_ ?_
      rotate_left 2
      · rw [exec_bs rfl (by simp only [List.map_toArray, List.map_cons, List.map_nil]; rfl) hbs]
      refine hK.out _ _ (hb6) (fun hHeld => ?_)
      clear hK K
      refine norm_ (a' := ?_) ?_ ?_
      rotate_left
      · show Act.put _ (some 22) _ = _
        simp only [Act.put, List.setIfInBounds_toArray, List.set_cons_zero, List.set_cons_succ, i64_w, i32_w]
        rfl
      refine last_ (i := 7) (N := some 23) #[true, true, true, true, true, true, true, true, false, false, false] rfl rfl (by kernel_rfl) (by decide) (fun K hK => ?_)
      refine value_ (w1 := ?_) (v := ?_) (by rfl) rfl ?_ ?_
      rotate_left 2
      · rw [exec_append rfl (by rfl) (by rfl) happ]
      refine hK.out _ _ ?_
      clear hK K
      refine norm_ (a' := ?_) ?_ ?_
      rotate_left
      · show Act.put _ (some 23) _ = _
        simp only [Act.put, List.setIfInBounds_toArray, List.set_cons_zero, List.set_cons_succ, i64_w, i32_w]
        rfl
      refine pure_ (i := 8) (N := some 24) (v := ?_) (a' := ?_) #[true, true, true, true, true, true, true, true, true, false, false] rfl rfl (by kernel_rfl) (fun _ _ _ h => h) (Or.inl ⟨by rfl, ?_⟩) ?_ ?_
      rotate_left
      · intro w'
        go_simp
        with_reducible rfl
      rotate_left
      · simp only [Act.put, List.setIfInBounds_toArray, List.set_cons_zero, List.set_cons_succ, i64_w, i32_w]
        rfl
      refine pure_ (i := 9) (N := some 25) (v := ?_) (a' := ?_) #[true, true, true, true, true, true, true, true, true, true, false] rfl rfl (by kernel_rfl) (fun _ _ _ h => h) (Or.inl ⟨by rfl, ?_⟩) ?_ ?_
      rotate_left
      · intro w'
        go_simp
        with_reducible rfl
      rotate_left
      · simp only [Act.put, List.setIfInBounds_toArray, List.set_cons_zero, List.set_cons_succ, i64_w, i32_w]
        rfl
      refine last_ (i := 10) (N := none) #[true, true, true, true, true, true, true, true, true, true, true] rfl rfl (by kernel_rfl) (by decide) (fun K hK => ?_)
      refine skip_ (w1 := ?_) (by rfl) rfl ?_ ?_
      rotate_left
      · go_simp
        rfl
      refine hK.out _ _ ?_
      clear hK K
      refine done_ (by kernel_rfl) ?_
      go_wp2
      exact ⟨⟨k + 1, by omega, by go_num, _, _, HF.out⟩, by simp [intOf]; omega⟩
    · obtain rfl : k = n := by omega
      have hz0 : Rd w wr (fun i => w.heap.size < i ∧ i < wr.heap.size) (fun i => i = w.heap.size) w.heap.size k (St.new k) := by
        obtain ⟨A, c, rfl⟩ : ∃ A c, v0 = .slice A k c := by
          rcases mo.2 with ⟨e, h0⟩ | ⟨g, cap, cur, e, _⟩
          · exact ⟨none, 0, by rw [e, h0]⟩
          · exact ⟨_, _, e⟩
        have hxl := mb.lt
        refine ⟨A, c, none, 0, [], mb, ⟨⟨⟨by simp [St.new, zeros], bytes_zeros _, fun h0 => ?_⟩, fun h0 => ?_⟩, World.ownsRow_nil _ _ _ _, rfl, rfl, (fun a ha => by cases ha), rfl, (fun g hg => by simp [Value.ownBlock] at hg), fun i hi => ⟨by omega, by omega⟩, fun i hi => ⟨by omega, by omega, hi.2⟩, mbel⟩, by show (-9223372036854775808 : Int) ≤ -1; decide, by show (-1 : Int) ≤ 9223372036854775807; decide⟩
        · obtain ⟨g, rfl⟩ : ∃ g, A = some ⟨g, 0, none⟩ := by
            rcases mo.2 with ⟨e, h1⟩ | ⟨g, cap, cur, e, _⟩
            · omega
            · simp only [Value.slice.injEq] at e; exact ⟨g, e.1⟩
          have hgl := mo.lt g rfl
          have hgx : g ≠ w.heap.size := by
            obtain ⟨cu, hcu⟩ := own_type mo rfl
            exact type_ne hcu mb (by decide)
          refine ⟨_, rfl, ⟨by show w.heap.size < g; omega, hgl.2⟩, fun i hi => ?_⟩
          have hrl := mo.1
          obtain ⟨B, e, hB1, hB2⟩ := mr i rows[i] (List.getElem?_eq_getElem (by omega))
          have hBx : B ≠ w.heap.size := type_ne hB2 mb (by decide)
          refine ⟨⟨B, 0, none⟩, 64, Nat.le_refl _, ⟨by show w.heap.size < B; omega, (Array.getElem?_eq_some_iff.1 hB2).1⟩, ?_, fun j u hj => ?_⟩
          · exact mo.cells rfl i _ (by rw [List.getElem?_eq_getElem (by omega), e])
          · have hsz : sec (zeros (k * 64)) i = zeros 64 := by
              apply List.ext_getElem?
              intro q
              rw [sec_get]
              unfold zeros
              simp only [List.getElem?_replicate]
              split
              · rw [if_pos (by omega)]
              · rfl
            rw [show (St.new k).sy = zeros (k * 64) from rfl, hsz] at hj
            rw [Addr.add_lit, Nat.zero_add, cell_of_row _ _ j _ _ _ hB2, ← Array.getElem?_toList, Z64c_list]
            exact hj
        · have := ml h0
          simp only [Value.slice.injEq] at this
          exact ⟨this.1, this.2.2⟩
      have HZ := Lib.hid hz0
      have HB := Lib.hid mbel
      have hbig : ¬ ((k : Int) < z ∧ (k : Int) < 2048) := by omega
      clear hz0 mb mo ml mr mbel
      by_cases hkz : (k : Int) < z
      · have t0 : decide ((k : Int) < z) = true := by simp; omega
        have t1 : decide ((k : Int) < 2048) = false := by simp; omega
        clear hkz hbig
        go_wp2
        go_ret
        exact ⟨_, _, _, rfl, HZ.out, HB.out⟩
      · have t0 : decide ((k : Int) < z) = false := by simp; omega
        clear hkz hbig
        go_wp2
        go_ret
        exact ⟨_, _, _, rfl, HZ.out, HB.out⟩
end Go.Proofs.Ytomihbanpjedeaa
