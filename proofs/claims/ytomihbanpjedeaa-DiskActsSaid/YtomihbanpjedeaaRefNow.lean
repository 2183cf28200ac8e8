/- The document's disk: Now. -/
import Derived.Test.YtomihbanpjedeaaRefBurn
namespace Go.Proofs.Ytomihbanpjedeaa
open Go.RowKit Go.Proofs.YtomihbanpjedeaaW.PrintLast
set_option linter.unusedSimpArgs false
theorem Below.drw {B : Nat} {w w1 : World} (h : Below B w w1) : Below B w w1.drew := ⟨h.os, h.tape, h.output, h.size, h.block⟩
/-- Slices of rows: none has no room. -/
structure Sl (w : World) (R : Nat → Prop) (A : Option Addr) (n c : Nat) (xs : List Value) : Prop where
  rw' : Rw w R A n xs
  nil : n = 0 → A = none ∧ c = 0
theorem pend_act {w : World} {gp m k cp : Nat} {ps : List Ac} (ho : w.ownsRow 0 43 6 (.slice (some ⟨gp, 0, none⟩) m cp) m (acts ps)) (hk : k < ps.length) :
    w.cell? ⟨gp, k * 6 + 1, none⟩ = some (.int .i64 ps[k].at_) ∧ w.cell? ⟨gp, k * 6 + 2, none⟩ = some (.slice ps[k].A ps[k].ks.length ps[k].c) := by
  have h := fun j hj => acts_at (List.getElem?_eq_getElem hk) j hj
  have c1 := ho.cells rfl (k * 6 + 1) (.int .i64 ps[k].at_) (by rw [h 1 (by omega)]; rfl)
  have c2 := ho.cells rfl (k * 6 + 2) (.slice ps[k].A ps[k].ks.length ps[k].c) (by rw [h 2 (by omega)]; rfl)
  rw [Addr.add_lit, Nat.zero_add] at c1 c2
  exact ⟨c1, c2⟩
set_option maxHeartbeats 2000000 in
set_option maxRecDepth 100000 in
theorem now_calls (w0 : World) (R : Nat → Prop) (x n m cS cp : Nat) (A P : Option Addr) (fu : Int) (dn : Bool) (xs : List Value) (ps : List Ac) (w : World) (h : Blk w x (.slice A n cS) (.slice P m cp) fu dn) (hs : Sl w R A n cS xs) (hn : n ≤ 2048)
    (hm : ps.length = m) (hmm : m ≤ 1000000) (ho : w.ownsRow 0 43 6 (.slice P m cp) m (acts ps)) (hp : ∀ a ∈ ps, Ac.Pend w0 n a) (hb : Below w0.heap.size w0 w) :
    Calls Try.prog 27 #[.pointer (some ⟨x, 0, none⟩)] w fun e w' => ∃ A' c', e = .returned (.slice A' n c') ∧ Sl w' (fun i => R i ∨ (w.heap.size ≤ i ∧ i < w'.heap.size)) A' n c' (nowOf (pnOf ps) xs) ∧ Below w.heap.size w w' := by
  have c0 := h.c0
  have c1 := h.c1
  have H := Lib.hid h
  have HO := Lib.hid ho
  have HS := Lib.hid hs
  have HM := Lib.hid hm
  clear h ho hs hm
  go_enter Try.func27, Try.ntmps27
  go_wp2_with fail
  go_loopw [3, 4] (fun l i wr => ∃ k : Nat, k ≤ m ∧ i = .int .i64 k ∧ ∃ A' c', l = .slice A' n c' ∧ Sl wr (fun i => R i ∨ (w.heap.size ≤ i ∧ i < wr.heap.size)) A' n c' (nowTo (pnOf ps) xs k) ∧ Below w.heap.size w wr) (fun _ i _ => m - (intOf i).toNat)
  case atStart => exact ⟨0, by omega, rfl, A, cS, rfl, ⟨HS.out.rw'.mono (fun i hi => .inl hi), HS.out.nil⟩, Below.refl _ _⟩
  case round =>
    obtain ⟨k, hk, rfl, A', c', rfl, hsl, hbw⟩ := hrel
    have c1 : wr.cell? ⟨x, 1, none⟩ = some (.slice P m cp) := pw_cell_below hbw c1
    by_cases hlt : k < m
    · have hkl : k < ps.length := by rw [HM.out]; exact hlt
      have ho2 := HO.out
      obtain ⟨gp, rfl⟩ : ∃ gp, P = some ⟨gp, 0, none⟩ := by
        rcases ho2.2 with ⟨e, h0⟩ | ⟨g, cap, cur, e, _⟩
        · omega
        · simp only [Value.slice.injEq] at e; exact ⟨g, e.1⟩
      obtain ⟨d1, d2⟩ := pend_act ho2 hkl
      have hpa := hp ps[k] (List.getElem_mem _)
      obtain ⟨q, hq⟩ : ∃ q : Nat, ps[k].at_ = (q : Int) := ⟨ps[k].at_.toNat, by have := hpa.lo; omega⟩
      have hqn : q < n := by have := hpa.hi; omega
      obtain ⟨B, hB, hBc⟩ := hpa.ok.bts.2 (by rw [hpa.len]; omega)
      have hstep : nowTo (pnOf ps) xs (k + 1) = put (nowTo (pnOf ps) xs k) q ps[k].ks := by
        show put _ _ _ = _
        rw [pnOf_getD hkl]
        simp only [hq, Int.toNat_natCast]
      rw [hq] at d1
      rw [hB, hpa.len] at d2
      have hcap := hpa.ok.cap
      rw [hpa.len] at hcap
      have hkb := hpa.ok.bts.1
      have hkl' := hpa.len
      generalize ps[k].ks = ks at hstep hBc hkb hkl'
      generalize ps[k].c = cB at d2 hcap
      have bd : Below wr.heap.size wr wr.drew := ⟨rfl, rfl, rfl, Nat.le_refl _, fun _ _ => rfl⟩
      have hwith := with_calls _ A' n c' q 64 B cB _ ks wr.drew (hsl.rw'.below bd) hqn hn (by omega) hkb hkl' (fun j u hj => pw_cell_below bd (pw_cell_below hbw (pw_cell_below hb (hBc j u hj)))) hcap
      rw [show ((64 : Nat) : Int) = 64 from rfl, List.take_of_length_le (by omega), ← hstep] at hwith
      have hall : ∀ w6, Below wr.drew.heap.size wr.drew w6 → w6.cell? ⟨x, 1, none⟩ = some (.slice (some ⟨gp, 0, none⟩) m cp) ∧ w6.cell? ⟨gp, k * 6 + 1, none⟩ = some (.int .i64 (q : Int)) ∧ w6.cell? ⟨gp, k * 6 + 2, none⟩ = some (.slice (some B) 64 cB) := fun w6 h6 =>
        ⟨pw_cell_below h6 (pw_cell_below bd c1), pw_cell_below h6 (pw_cell_below bd (pw_cell_below hbw d1)), pw_cell_below h6 (pw_cell_below bd (pw_cell_below hbw d2))⟩
      obtain ⟨ha, hb', hc⟩ := hall _ (Below.refl _ _)
      have hstay := Lib.hid hall
      have i3 : (0 : Int) ≤ (k : Int) := by omega
      have i4 : (k : Int) < (m : Int) := by omega
      have HSL := Lib.hid hsl
      have HP := Lib.hid hp
      clear hall hsl hpa hstep hBc hp hq ho2 d1 d2 hB
      go_wp2
      refine start_ (n := 19) (S := fun w' => w'.cell? ⟨x, 1, none⟩ = some (.slice (some ⟨gp, 0, none⟩) m cp) ∧ w'.cell? ⟨gp, k * 6 + 1, none⟩ = some (.int .i64 (q : Int)) ∧ w'.cell? ⟨gp, k * 6 + 2, none⟩ = some (.slice (some B) 64 cB)) (ds := []) #[false, false, false, false, false, false, false, false, false, false, false, false, false, false, false, false, false, false, false] (by kernel_rfl) rfl rfl ⟨ha, hb', hc⟩ (fun hHeld => ?_)
      refine pure_ (i := 0) (N := some 18) (v := ?_) (a' := ?_) #[true, false, false, false, false, false, false, false, false, false, false, false, false, false, false, false, false, false, false] rfl rfl (by kernel_rfl) (fun _ _ _ h => h) (Or.inl ⟨by rfl, ?_⟩) ?_ ?_
      rotate_left
      · intro w'
        go_simp
        with_reducible rfl
      rotate_left
      · simp only [Act.put, List.setIfInBounds_toArray, List.set_cons_zero, List.set_cons_succ, i64_w, i32_w]
        rfl
      refine pure_ (i := 1) (N := some 19) (v := ?_) (a' := ?_) #[true, true, false, false, false, false, false, false, false, false, false, false, false, false, false, false, false, false, false] rfl rfl (by kernel_rfl) (fun _ _ _ h => h) (Or.inl ⟨by rfl, ?_⟩) ?_ ?_
      rotate_left
      · intro w'
        go_simp
        with_reducible rfl
      rotate_left
      · simp only [Act.put, List.setIfInBounds_toArray, List.set_cons_zero, List.set_cons_succ, i64_w, i32_w]
        rfl
      refine pure_ (i := 2) (N := some 20) (v := ?_) (a' := ?_) #[true, true, true, false, false, false, false, false, false, false, false, false, false, false, false, false, false, false, false] rfl rfl (by kernel_rfl) (fun _ _ _ h => h) (Or.inl ⟨by rfl, ?_⟩) ?_ ?_
      rotate_left
      · intro w'
        go_simp
        with_reducible rfl
      rotate_left
      · simp only [Act.put, List.setIfInBounds_toArray, List.set_cons_zero, List.set_cons_succ, i64_w, i32_w]
        rfl
      refine pure_ (i := 3) (N := some 21) (v := ?_) (a' := ?_) #[true, true, true, true, false, false, false, false, false, false, false, false, false, false, false, false, false, false, false] rfl rfl (by kernel_rfl) (fun _ _ _ h => h) (Or.inl ⟨by rfl, ?_⟩) ?_ ?_
      rotate_left
      · intro w'
        go_simp
        with_reducible rfl
      rotate_left
      · simp only [Act.put, List.setIfInBounds_toArray, List.set_cons_zero, List.set_cons_succ, i64_w, i32_w]
        rfl
      refine pure_ (i := 5) (N := some 23) (v := ?_) (a' := ?_) #[true, true, true, true, false, true, false, false, false, false, false, false, false, false, false, false, false, false, false] rfl rfl (by kernel_rfl) (fun _ _ _ h => h) (Or.inl ⟨by rfl, ?_⟩) ?_ ?_
      rotate_left
      · intro w'
        go_simp
        with_reducible rfl
      rotate_left
      · simp only [Act.put, List.setIfInBounds_toArray, List.set_cons_zero, List.set_cons_succ, i64_w, i32_w]
        rfl
      refine pure_ (i := 9) (N := some 27) (v := ?_) (a' := ?_) #[true, true, true, true, false, true, false, false, false, true, false, false, false, false, false, false, false, false, false] rfl rfl (by kernel_rfl) (fun _ _ _ h => h) (Or.inl ⟨by rfl, ?_⟩) ?_ ?_
      rotate_left
      · intro w'
        go_simp
        with_reducible rfl
      rotate_left
      · simp only [Act.put, List.setIfInBounds_toArray, List.set_cons_zero, List.set_cons_succ, i64_w, i32_w]
        rfl
      refine pure_ (i := 10) (N := some 28) (v := ?_) (a' := ?_) #[true, true, true, true, false, true, false, false, false, true, true, false, false, false, false, false, false, false, false] rfl rfl (by kernel_rfl) (fun _ _ _ h => h) (Or.inl ⟨by rfl, ?_⟩) ?_ ?_
      rotate_left
      · intro w'
        go_simp
        with_reducible rfl
      rotate_left
      · simp only [Act.put, List.setIfInBounds_toArray, List.set_cons_zero, List.set_cons_succ, i64_w, i32_w]
        rfl
      refine pure_ (i := 11) (N := some 29) (v := ?_) (a' := ?_) #[true, true, true, true, false, true, false, false, false, true, true, true, false, false, false, false, false, false, false] rfl rfl (by kernel_rfl) (fun _ _ _ h => h) (Or.inl ⟨by rfl, ?_⟩) ?_ ?_
      rotate_left
      · intro w'
        go_simp
        with_reducible rfl
      rotate_left
      · simp only [Act.put, List.setIfInBounds_toArray, List.set_cons_zero, List.set_cons_succ, i64_w, i32_w]
        rfl
      refine pure_ (i := 13) (N := some 31) (v := ?_) (a' := ?_) #[true, true, true, true, false, true, false, false, false, true, true, true, false, true, false, false, false, false, false] rfl rfl (by kernel_rfl) (fun _ _ _ h => h) (Or.inl ⟨by rfl, ?_⟩) ?_ ?_
      rotate_left
      · intro w'
        go_simp
        with_reducible rfl
      rotate_left
      · simp only [Act.put, List.setIfInBounds_toArray, List.set_cons_zero, List.set_cons_succ, i64_w, i32_w]
        rfl
      refine take_ (i := 4) (N := some 22) (v := ?_) (a' := ?_) #[true, true, true, true, true, true, false, false, false, true, true, true, false, true, false, false, false, false, false] rfl rfl (by kernel_rfl) (fun _ _ _ h => h) (Or.inl ⟨by rfl, ?_⟩) hHeld ?_ ?_
      rotate_left
      · rintro w' ⟨s0, s1, s2⟩
        go_simp
        with_reducible rfl
      rotate_left
      · simp only [Act.put, List.setIfInBounds_toArray, List.set_cons_zero, List.set_cons_succ, i64_w, i32_w]
        rfl
      refine pure_ (i := 6) (N := some 24) (v := ?_) (a' := ?_) #[true, true, true, true, true, true, true, false, false, true, true, true, false, true, false, false, false, false, false] rfl rfl (by kernel_rfl) (fun _ _ _ h => h) (Or.inl ⟨by rfl, ?_⟩) ?_ ?_
      rotate_left
      · intro w'
        go_simp
        with_reducible rfl
      rotate_left
      · simp only [Act.put, List.setIfInBounds_toArray, List.set_cons_zero, List.set_cons_succ, i64_w, i32_w]
        rfl
      refine pure_ (i := 7) (N := some 25) (v := ?_) (a' := ?_) #[true, true, true, true, true, true, true, true, false, true, true, true, false, true, false, false, false, false, false] rfl rfl (by kernel_rfl) (fun _ _ _ h => h) (Or.inl ⟨by rfl, ?_⟩) ?_ ?_
      rotate_left
      · intro w'
        go_simp
        with_reducible rfl
      rotate_left
      · simp only [Act.put, List.setIfInBounds_toArray, List.set_cons_zero, List.set_cons_succ, i64_w, i32_w]
        rfl
      refine take_ (i := 8) (N := some 26) (v := ?_) (a' := ?_) #[true, true, true, true, true, true, true, true, true, true, true, true, false, true, false, false, false, false, false] rfl rfl (by kernel_rfl) (fun _ _ _ h => h) (Or.inl ⟨by rfl, ?_⟩) hHeld ?_ ?_
      rotate_left
      · rintro w' ⟨s0, s1, s2⟩
        go_simp
        with_reducible rfl
      rotate_left
      · simp only [Act.put, List.setIfInBounds_toArray, List.set_cons_zero, List.set_cons_succ, i64_w, i32_w]
        rfl
      refine take_ (i := 12) (N := some 30) (v := ?_) (a' := ?_) #[true, true, true, true, true, true, true, true, true, true, true, true, true, true, false, false, false, false, false] rfl rfl (by kernel_rfl) (fun _ _ _ h => h) (Or.inl ⟨by rfl, ?_⟩) hHeld ?_ ?_
      rotate_left
      · rintro w' ⟨s0, s1, s2⟩
        go_simp
        with_reducible rfl
      rotate_left
      · simp only [Act.put, List.setIfInBounds_toArray, List.set_cons_zero, List.set_cons_succ, i64_w, i32_w]
        rfl
      refine pure_ (i := 14) (N := some 32) (v := ?_) (a' := ?_) #[true, true, true, true, true, true, true, true, true, true, true, true, true, true, true, false, false, false, false] rfl rfl (by kernel_rfl) (fun _ _ _ h => h) (Or.inl ⟨by rfl, ?_⟩) ?_ ?_
      rotate_left
      · intro w'
        go_simp
        with_reducible rfl
      rotate_left
      · simp only [Act.put, List.setIfInBounds_toArray, List.set_cons_zero, List.set_cons_succ, i64_w, i32_w]
        rfl
      refine pure_ (i := 15) (N := some 33) (v := ?_) (a' := ?_) #[true, true, true, true, true, true, true, true, true, true, true, true, true, true, true, true, false, false, false] rfl rfl (by kernel_rfl) (fun _ _ _ h => h) (Or.inl ⟨by rfl, ?_⟩) ?_ ?_
      rotate_left
      · intro w'
        go_simp
        with_reducible rfl
      rotate_left
      · simp only [Act.put, List.setIfInBounds_toArray, List.set_cons_zero, List.set_cons_succ, i64_w, i32_w]
        rfl
      refine take_ (i := 16) (N := some 34) (v := ?_) (a' := ?_) #[true, true, true, true, true, true, true, true, true, true, true, true, true, true, true, true, true, false, false] rfl rfl (by kernel_rfl) (fun _ _ _ h => h) (Or.inl ⟨by rfl, ?_⟩) hHeld ?_ ?_
      rotate_left
      · rintro w' ⟨s0, s1, s2⟩
        go_simp
        with_reducible rfl
      rotate_left
      · simp only [Act.put, List.setIfInBounds_toArray, List.set_cons_zero, List.set_cons_succ, i64_w, i32_w]
        rfl
      refine one_ (i := 17) (N := some 35) #[true, true, true, true, true, true, true, true, true, true, true, true, true, true, true, true, true, true, false] rfl rfl (by kernel_rfl) (by decide) (fun K hK => ?_)
      refine goes_ Try.func42 (by kernel_rfl) rfl #[.slice A' n c', .int .i64 (q : Int), .slice (some B) 64 cB, .int .i64 64] (by rfl) rfl rfl (by simp only [List.map_toArray, List.map_cons, List.map_nil]; rfl) ?_
      with_reducible refine (hwith).mono ?_
      rintro e w6 ⟨A2, c2, rfl, hrw2, hb6⟩
      refine ⟨_, rfl, ?_⟩
      obtain ⟨f1, f2, f3⟩ := hstay.out w6 hb6
      refine hK.out _ _ ⟨f1, f2, f3⟩ (fun hHeld => ?_)
      clear hK K
      refine norm_ (a' := ?_) ?_ ?_
      rotate_left
      · show Act.put _ (some 35) _ = _
        simp only [Act.put, List.setIfInBounds_toArray, List.set_cons_zero, List.set_cons_succ, i64_w, i32_w]
        rfl
      refine pure_ (i := 18) (N := some 3) (v := ?_) (a' := ?_) #[true, true, true, true, true, true, true, true, true, true, true, true, true, true, true, true, true, true, true] rfl rfl (by kernel_rfl) (fun _ _ _ h => h) (Or.inl ⟨by rfl, ?_⟩) ?_ ?_
      rotate_left
      · intro w'
        go_simp
        with_reducible rfl
      rotate_left
      · simp only [Act.put, List.setIfInBounds_toArray, List.set_cons_zero, List.set_cons_succ, i64_w, i32_w]
        rfl
      refine done_ (by kernel_rfl) ?_
      go_wp2
      have hz := HSL.out
      refine ⟨⟨k + 1, by omega, by go_num, A2, c2, rfl, ⟨hrw2.mono (fun i hi => ?_), fun h0 => by omega⟩, hbw.trans ((bd.trans hb6).mono hbw.size)⟩, by simp [intOf]; omega⟩
      rcases hi with (hi | hi) | hi
      · exact .inl hi
      · exact .inr ⟨hi.1, by have := hb6.size; have : wr.drew.heap.size = wr.heap.size := rfl; omega⟩
      · exact .inr ⟨by have := hbw.size; have : wr.drew.heap.size = wr.heap.size := rfl; omega, hi.2⟩
    · obtain rfl : k = m := by omega
      have HSL := Lib.hid hsl
      clear hsl
      go_wp2_with fail
      go_ret
      have := HSL.out
      rw [show nowOf (pnOf ps) xs = nowTo (pnOf ps) xs k by unfold nowOf pnOf; rw [List.length_map, HM.out]]
      exact ⟨A', c', rfl, this, hbw⟩
end Go.Proofs.Ytomihbanpjedeaa
