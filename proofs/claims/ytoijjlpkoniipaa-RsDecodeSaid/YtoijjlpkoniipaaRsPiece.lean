/- Codes: Piece, Row. -/
import Derived.Test.YtoijjlpkoniipaaRsEnc
set_option linter.unusedVariables false
set_option linter.unusedSimpArgs false
namespace Go.Proofs.Ytoijjlpkoniipaa
open Go.RowKit Go.Proofs.YtoijjlpkoniipaaW.PrintWords Go.Proofs.YtoijjlpkoniipaaW.PrintLast Gf Lin
theorem RS.nil (w : World) : RS w none 0 0 [] := ⟨Nat.le_refl _, C_of_cells [] (by simp) (fun h => by simp at h)⟩
open Classical in
/-- A piece, and its error. -/
noncomputable def docPc (k n : Nat) (m : List (List UInt8)) (i : Int) : List UInt8 × Int := if m.length = k ∧ Alike m then (if 0 ≤ i ∧ i < n then (sumB ((List.range k).map (codeM k i.toNat)) m, 0) else ([], 3)) else ([], 14)
theorem docPc_ok {k n : Nat} {m : List (List UInt8)} {i : Int} (h1 : m.length = k) (h2 : Alike m) (h3 : 0 ≤ i ∧ i < n) : docPc k n m i = (sumB ((List.range k).map (codeM k i.toNat)) m, 0) := by unfold docPc; rw [if_pos ⟨h1, h2⟩, if_pos h3]
theorem docPc_range {k n : Nat} {m : List (List UInt8)} {i : Int} (h1 : m.length = k) (h2 : Alike m) (h3 : ¬ (0 ≤ i ∧ i < n)) : docPc k n m i = ([], 3) := by unfold docPc; rw [if_pos ⟨h1, h2⟩, if_neg h3]
theorem docPc_no {k n : Nat} {m : List (List UInt8)} {i : Int} (h : ¬ (m.length = k ∧ Alike m)) : docPc k n m i = ([], 14) := by unfold docPc; rw [if_neg h]
theorem piece_nil (B : Option Addr) (q c : Nat) (i : Int) (w : World) : Calls Try.prog 43 #[.pointer none, .slice B q c, .int .i64 i] w fun e w' => e = .returned (.tuple #[.slice none 0 0, .int .i64 15]) ∧ w' = w := by
  go_enter Try.func43, Try.ntmps43
  go_wp2_with fail
  go_ret2
  exact ⟨rfl, rfl⟩
set_option maxHeartbeats 1000000 in
set_option maxRecDepth 100000 in
theorem piece_R {w : World} {gc gt : Nat} {A : Option Addr} {k n cap : Nat} (H : Cd w gc gt A k n cap) {B : Option Addr} {q c : Nat} {m : List (List UInt8)} (h : RD w B q c m) (hq : q ≤ 1000) (hn : ∀ r ∈ m, r.length ≤ 1000000) (i : Int) :
    Calls Try.prog 43 #[.pointer (some ⟨gc, 0, none⟩), .slice B q c, .int .i64 i] w fun e w' => ∃ D s d ev, e = .returned (.tuple #[.slice D s d, .int .i64 ev]) ∧ ev = (docPc k n m i).2 ∧ RS w' D s d (docPc k n m i).1 ∧ Below w.heap.size w w' := by
  have hl := h.len
  have c1 := H.c1
  have hn2 := H.n2
  by_cases hqk : q = k
  · have t1 : ((q : Int) != (k : Int)) = false := by rw [hqk]; simp
    have hal := alike_R h hq
    have HC := Lib.hid H
    have HM := Lib.hid h
    have HN := Lib.hid hn
    have HQ := Lib.hid hqk
    have HL := Lib.hid hl
    clear H h hn hq hqk hl
    go_enter Try.func43, Try.ntmps43
    go_wp2_with fail
    refine hal.mono ?_
    clear hal
    rintro e w1 ⟨b, rfl, hb, hb1⟩
    have HB := Lib.hid hb1
    replace HC := Lib.hid (HC.out.below hb1)
    replace HM := Lib.hid (HM.out.below hb1)
    have HBA := Lib.hid hb
    clear hb hb1
    by_cases ha : Alike m
    · obtain rfl : b = true := HBA.out.2 ha
      have HA := Lib.hid ha
      have hth := there_R HC.out i
      clear ha
      go_wp2_with fail
      refine hth.mono ?_
      clear hth
      rintro e w2 ⟨rfl, hb2⟩
      replace HB := Lib.hid (bthen HB.out hb2)
      replace HC := Lib.hid (HC.out.below hb2)
      replace HM := Lib.hid (HM.out.below hb2)
      clear hb2
      by_cases hi : 0 ≤ i ∧ i < (n : Int)
      · rw [decide_eq_true hi]
        have HI := Lib.hid hi
        obtain ⟨i0, i1⟩ := hi
        obtain ⟨j, rfl⟩ : ∃ j : Nat, i = (j : Int) := ⟨i.toNat, by omega⟩
        have hjn : j < n := by omega
        have bd : Below w2.heap.size w2 w2.drew := ⟨rfl, rfl, rfl, Nat.le_refl _, fun _ _ => rfl⟩
        have hc := HC.out.below bd
        obtain ⟨ad, R, cR, hA, hcell, hrow⟩ := hc.rd.row (k := j) hjn
        cases hA
        have e1 : gr (rowsOf n k (codeM k)) j = (List.range k).map (codeM k j) := gr_rowsOf _ hjn
        rw [e1] at hcell hrow
        have el : ((List.range k).map (codeM k j)).length = k := by simp
        rw [el] at hcell hrow
        have c0 := hc.c0
        have c2 := hc.c2
        have f1_ := c0
        have f2_ := c2
        have f3_ := hcell
        have hsm := sum_R hc.td hrow (HM.out.below bd) HN.out
        rw [docSum_ok (by rw [el, HL.out, HQ.out]) HA.out] at hsm
        clear hc hrow e1 el t1 c1
        go_wp2
        refine start_ (n := 15) (S := fun w' => w'.cell? ⟨gc, 0, none⟩ = some (.pointer (some ⟨gt, 0, none⟩)) ∧ w'.cell? ⟨gc, 2, none⟩ = some (.slice (some ad) n cap) ∧ w'.cell? (ad.add j) = some (.slice R k cR)) (ds := []) #[false, false, false, false, false, false, false, false, false, false, false, false, false, false, false] (by kernel_rfl) rfl rfl ⟨c0, c2, hcell⟩ (fun hHeld => ?_)
        refine pure_ (i := 0) (N := some 29) (v := ?_) (a' := ?_) #[true, false, false, false, false, false, false, false, false, false, false, false, false, false, false] rfl rfl (by kernel_rfl) (fun _ _ _ h => h) (Or.inl ⟨by rfl, ?_⟩) ?_ ?_
        rotate_left
        · intro w'
          go_simp
          with_reducible rfl
        rotate_left
        · simp only [Act.put, List.setIfInBounds_toArray, List.set_cons_zero, List.set_cons_succ, i64_w, i32_w]
          rfl
        refine pure_ (i := 1) (N := some 30) (v := ?_) (a' := ?_) #[true, true, false, false, false, false, false, false, false, false, false, false, false, false, false] rfl rfl (by kernel_rfl) (fun _ _ _ h => h) (Or.inl ⟨by rfl, ?_⟩) ?_ ?_
        rotate_left
        · intro w'
          go_simp
          with_reducible rfl
        rotate_left
        · simp only [Act.put, List.setIfInBounds_toArray, List.set_cons_zero, List.set_cons_succ, i64_w, i32_w]
          rfl
        refine pure_ (i := 2) (N := some 31) (v := ?_) (a' := ?_) #[true, true, true, false, false, false, false, false, false, false, false, false, false, false, false] rfl rfl (by kernel_rfl) (fun _ _ _ h => h) (Or.inl ⟨by rfl, ?_⟩) ?_ ?_
        rotate_left
        · intro w'
          go_simp
          with_reducible rfl
        rotate_left
        · simp only [Act.put, List.setIfInBounds_toArray, List.set_cons_zero, List.set_cons_succ, i64_w, i32_w]
          rfl
        refine pure_ (i := 4) (N := some 33) (v := ?_) (a' := ?_) #[true, true, true, false, true, false, false, false, false, false, false, false, false, false, false] rfl rfl (by kernel_rfl) (fun _ _ _ h => h) (Or.inl ⟨by rfl, ?_⟩) ?_ ?_
        rotate_left
        · intro w'
          go_simp
          with_reducible rfl
        rotate_left
        · simp only [Act.put, List.setIfInBounds_toArray, List.set_cons_zero, List.set_cons_succ, i64_w, i32_w]
          rfl
        refine pure_ (i := 5) (N := some 34) (v := ?_) (a' := ?_) #[true, true, true, false, true, true, false, false, false, false, false, false, false, false, false] rfl rfl (by kernel_rfl) (fun _ _ _ h => h) (Or.inl ⟨by rfl, ?_⟩) ?_ ?_
        rotate_left
        · intro w'
          go_simp
          with_reducible rfl
        rotate_left
        · simp only [Act.put, List.setIfInBounds_toArray, List.set_cons_zero, List.set_cons_succ, i64_w, i32_w]
          rfl
        refine pure_ (i := 6) (N := some 35) (v := ?_) (a' := ?_) #[true, true, true, false, true, true, true, false, false, false, false, false, false, false, false] rfl rfl (by kernel_rfl) (fun _ _ _ h => h) (Or.inl ⟨by rfl, ?_⟩) ?_ ?_
        rotate_left
        · intro w'
          go_simp
          with_reducible rfl
        rotate_left
        · simp only [Act.put, List.setIfInBounds_toArray, List.set_cons_zero, List.set_cons_succ, i64_w, i32_w]
          rfl
        refine pure_ (i := 8) (N := some 37) (v := ?_) (a' := ?_) #[true, true, true, false, true, true, true, false, true, false, false, false, false, false, false] rfl rfl (by kernel_rfl) (fun _ _ _ h => h) (Or.inl ⟨by rfl, ?_⟩) ?_ ?_
        rotate_left
        · intro w'
          go_simp
          with_reducible rfl
        rotate_left
        · simp only [Act.put, List.setIfInBounds_toArray, List.set_cons_zero, List.set_cons_succ, i64_w, i32_w]
          rfl
        refine pure_ (i := 11) (N := some 40) (v := ?_) (a' := ?_) #[true, true, true, false, true, true, true, false, true, false, false, true, false, false, false] rfl rfl (by kernel_rfl) (fun _ _ _ h => h) (Or.inl ⟨by rfl, ?_⟩) ?_ ?_
        rotate_left
        · intro w'
          go_simp
          with_reducible rfl
        rotate_left
        · simp only [Act.put, List.setIfInBounds_toArray, List.set_cons_zero, List.set_cons_succ, i64_w, i32_w]
          rfl
        refine take_ (i := 3) (N := some 32) (v := ?_) (a' := ?_) #[true, true, true, true, true, true, true, false, true, false, false, true, false, false, false] rfl rfl (by kernel_rfl) (fun _ _ _ h => h) (Or.inl ⟨by rfl, ?_⟩) hHeld ?_ ?_
        rotate_left
        · rintro w' ⟨s0, s1, s2⟩
          go_simp
          with_reducible rfl
        rotate_left
        · simp only [Act.put, List.setIfInBounds_toArray, List.set_cons_zero, List.set_cons_succ, i64_w, i32_w]
          rfl
        refine take_ (i := 7) (N := some 36) (v := ?_) (a' := ?_) #[true, true, true, true, true, true, true, true, true, false, false, true, false, false, false] rfl rfl (by kernel_rfl) (fun _ _ _ h => h) (Or.inl ⟨by rfl, ?_⟩) hHeld ?_ ?_
        rotate_left
        · rintro w' ⟨s0, s1, s2⟩
          go_simp
          with_reducible rfl
        rotate_left
        · simp only [Act.put, List.setIfInBounds_toArray, List.set_cons_zero, List.set_cons_succ, i64_w, i32_w]
          rfl
        refine pure_ (i := 9) (N := some 38) (v := ?_) (a' := ?_) #[true, true, true, true, true, true, true, true, true, true, false, true, false, false, false] rfl rfl (by kernel_rfl) (fun _ _ _ h => h) (Or.inl ⟨by rfl, ?_⟩) ?_ ?_
        rotate_left
        · intro w'
          go_simp
          with_reducible rfl
        rotate_left
        · simp only [Act.put, List.setIfInBounds_toArray, List.set_cons_zero, List.set_cons_succ, i64_w, i32_w]
          rfl
        refine take_ (i := 10) (N := some 39) (v := ?_) (a' := ?_) #[true, true, true, true, true, true, true, true, true, true, true, true, false, false, false] rfl rfl (by kernel_rfl) (fun _ _ _ h => h) (Or.inl ⟨by rfl, ?_⟩) hHeld ?_ ?_
        rotate_left
        · rintro w' ⟨s0, s1, s2⟩
          go_simp
          with_reducible rfl
        rotate_left
        · simp only [Act.put, List.setIfInBounds_toArray, List.set_cons_zero, List.set_cons_succ, i64_w, i32_w]
          rfl
        refine one_ (i := 12) (N := some 41) #[true, true, true, true, true, true, true, true, true, true, true, true, true, false, false] rfl rfl (by kernel_rfl) (by decide) (fun K hK => ?_)
        refine goes_ Try.func65 (by kernel_rfl) rfl #[.agg #[.pointer (some ⟨gt, 0, none⟩)], .slice R k cR, .slice B q c] (by rfl) rfl rfl (by simp only [List.map_toArray, List.map_cons, List.map_nil]; rfl) ?_
        with_reducible refine (hsm).mono ?_
        rintro e w6 ⟨D, s, d, rfl, hrs, hfr, hb6⟩
        refine ⟨_, rfl, ?_⟩
        have f1 := pw_cell_below hb6 f1_
        have f2 := pw_cell_below hb6 f2_
        have f3 := pw_cell_below hb6 f3_
        have HRS := Lib.hid hrs
        have HB6 := Lib.hid hb6
        clear hrs hfr hb6
        refine hK.out _ _ ⟨f1, f2, f3⟩ (fun hHeld => ?_)
        clear hK K
        refine norm_ (a' := ?_) ?_ ?_
        rotate_left
        · show Act.put _ (some 41) _ = _
          simp only [Act.put, List.setIfInBounds_toArray, List.set_cons_zero, List.set_cons_succ, i64_w, i32_w]
          rfl
        refine pure_ (i := 13) (N := some 6) (v := ?_) (a' := ?_) #[true, true, true, true, true, true, true, true, true, true, true, true, true, true, false] rfl rfl (by kernel_rfl) (fun _ _ _ h => h) (Or.inl ⟨by rfl, ?_⟩) ?_ ?_
        rotate_left
        · intro w'
          go_simp
          with_reducible rfl
        rotate_left
        · simp only [Act.put, List.setIfInBounds_toArray, List.set_cons_zero, List.set_cons_succ, i64_w, i32_w]
          rfl
        refine pure_ (i := 14) (N := some 7) (v := ?_) (a' := ?_) #[true, true, true, true, true, true, true, true, true, true, true, true, true, true, true] rfl rfl (by kernel_rfl) (fun _ _ _ h => h) (Or.inl ⟨by rfl, ?_⟩) ?_ ?_
        rotate_left
        · intro w'
          go_simp
          with_reducible rfl
        rotate_left
        · simp only [Act.put, List.setIfInBounds_toArray, List.set_cons_zero, List.set_cons_succ, i64_w, i32_w]
          rfl
        refine done_ (by kernel_rfl) ?_
        have HBF := Lib.hid (bthen (bthen HB.out bd) HB6.out)
        clear bd
        go_wp2_with fail
        go_ret2
        rw [docPc_ok (by rw [HL.out, HQ.out]) HA.out HI.out, Int.toNat_natCast]
        exact ⟨D, s, d, 0, rfl, rfl, HRS.out, HBF.out⟩
      · rw [decide_eq_false hi]
        have HI := Lib.hid hi
        clear hi t1 c1
        go_wp2_with fail
        go_ret2
        rw [docPc_range (by rw [HL.out, HQ.out]) HA.out HI.out]
        exact ⟨none, 0, 0, 3, rfl, rfl, RS.nil _, HB.out⟩
    · have hbf : b = false := by
        cases b with
        | false => rfl
        | true => exact absurd (HBA.out.1 rfl) ha
      subst hbf
      have HA := Lib.hid ha
      clear ha t1 c1
      go_wp2_with fail
      go_ret2
      rw [docPc_no fun h => HA.out h.2]
      exact ⟨none, 0, 0, 14, rfl, rfl, RS.nil _, HB.out⟩
  · rw [docPc_no fun h => hqk (by omega)]
    have t1 : ((q : Int) != (k : Int)) = true := by simp; omega
    clear H h hn hq hqk hl
    go_enter Try.func43, Try.ntmps43
    go_wp2_with fail
    go_ret2
    exact ⟨none, 0, 0, 14, rfl, rfl, RS.nil _, Below.refl _ _⟩
end Go.Proofs.Ytoijjlpkoniipaa
