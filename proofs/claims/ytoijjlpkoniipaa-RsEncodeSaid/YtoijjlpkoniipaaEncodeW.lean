/- The law RsEncode. -/
import Derived.Test.YtoijjlpkoniipaaRefRs
import Derived.Test.YtoijjlpkoniipaaRsBox
set_option linter.unusedVariables false
set_option linter.unusedSimpArgs false
namespace Go.Proofs.Ytoijjlpkoniipaa
open Go.RowKit Go.Proofs.YtoijjlpkoniipaaW.PrintWords Go.Proofs.YtoijjlpkoniipaaW.PrintLast Gf Lin
set_option maxHeartbeats 4000000 in
set_option maxRecDepth 100000 in
theorem RsEncode_walk (w : World) (ka nb : Int) (_k0 : -9223372036854775808 ≤ ka) (_k1 : ka ≤ 9223372036854775807) (_n0 : -9223372036854775808 ≤ nb) (_n1 : nb ≤ 9223372036854775807)
    (A : Option Addr) (m : List (List UInt8)) (ca : Nat) (hca : m.length ≤ ca) (hra : KBB.C w A m.length (bss m)) (i : Int) (_i0 : -9223372036854775808 ≤ i) (_i1 : i ≤ 9223372036854775807) :
    Calls Try.prog 8 #[.agg #[.int .i64 ka, .int .i64 nb], .slice A m.length ca, .int .i64 i] w fun e w' => e = .returned (.bool true) ∧ Below w.heap.size w w' := by
  have RA := Lib.hid (RD.mk hca hra)
  obtain ⟨n_, hn_⟩ : ∃ n_, n_ = m.length := ⟨_, rfl⟩
  rw [← hn_] at RA ⊢
  have HN_ := Lib.hid hn_
  clear hca hra hn_
  obtain ⟨w0_, hw0⟩ : ∃ w0_, w0_ = w.alloc (.cells #[.int .i64 ka, .int .i64 nb] 49) := ⟨_, rfl⟩
  obtain ⟨gb, hgb⟩ : ∃ gb, gb = w.heap.size := ⟨_, rfl⟩
  have BX : Hid (Bx w0_ gb ka nb) := Lib.hid (by rw [hw0, hgb]; exact Bx.new w ka nb)
  have hbel : Below w.heap.size w w0_ := by rw [hw0]; exact Below.alloc1 _ _
  have HB := Lib.hid hbel
  replace RA := Lib.hid (RA.out.below hbel)
  have HW0 := Lib.hid hw0
  have HGB := Lib.hid hgb
  clear hbel hw0 hgb
  by_cases hR : 1 ≤ ka ∧ ka ≤ nb ∧ nb ≤ 255
  · by_cases hbig : 8 < ka ∨ 24 < nb
    · skip
      have HR := Lib.hid hR
      have HBIG := Lib.hid hbig
      clear hR hbig
      go_enter Try.func8, Try.ntmps8
      go_wp2_with fail
      rw [← HW0.out, ← HGB.out]
      clear HW0 HGB
      have hcl := wakes09 w0_
      refine hcl.mono ?_
      clear hcl
      rintro e w2_ ⟨rfl, hbel⟩
      replace HB := Lib.hid (bthen HB.out hbel)
      replace RA := Lib.hid (RA.out.below hbel)
      replace BX := Lib.hid (BX.out.below hbel)
      clear hbel
      have cx0 := BX.out.c0
      have cx1 := BX.out.c1
      have hcl := code_big ka nb HR.out HBIG.out w2_
      go_wp2_with fail
      refine hcl.mono ?_
      clear hcl
      rintro e w3_ ⟨rfl, hbel⟩
      replace HB := Lib.hid (bthen HB.out hbel)
      replace RA := Lib.hid (RA.out.below hbel)
      replace BX := Lib.hid (BX.out.below hbel)
      clear hbel
      clear cx0 cx1
      have cx0 := BX.out.c0
      have cx1 := BX.out.c1
      go_wp2_with fail
      go_ret
      exact ⟨rfl, HB.out⟩
    · skip
      obtain ⟨k, hk⟩ : ∃ k : Nat, ka = (k : Int) := ⟨ka.toNat, by omega⟩
      obtain ⟨n, hn⟩ : ∃ n : Nat, nb = (n : Int) := ⟨nb.toNat, by omega⟩
      have hk1 : 1 ≤ k := by omega
      have hkn : k ≤ n := by omega
      have h8 : k ≤ 8 := by omega
      have h24 : n ≤ 24 := by omega
      have hn2 : n ≤ 255 := by omega
      have HKA := Lib.hid hk
      have HNB := Lib.hid hn
      have HR := Lib.hid hR
      clear hR hbig hk hn
      go_enter Try.func8, Try.ntmps8
      go_wp2_with fail
      rw [← HW0.out, ← HGB.out]
      clear HW0 HGB
      have hcl := wakes09 w0_
      refine hcl.mono ?_
      clear hcl
      rintro e w2_ ⟨rfl, hbel⟩
      replace HB := Lib.hid (bthen HB.out hbel)
      replace RA := Lib.hid (RA.out.below hbel)
      replace BX := Lib.hid (BX.out.below hbel)
      clear hbel
      have cx0 := BX.out.c0
      have cx1 := BX.out.c1
      have hcl := code_ok k n hk1 hkn h8 h24 ka nb HKA.out HNB.out w2_
      go_wp2_with fail
      refine hcl.mono ?_
      clear hcl
      rintro e w3_ ⟨gc, gt, Ac, capc, rfl, hcd, hbel⟩
      replace HB := Lib.hid (bthen HB.out hbel)
      replace RA := Lib.hid (RA.out.below hbel)
      replace BX := Lib.hid (BX.out.below hbel)
      have HC := Lib.hid hcd
      clear hcd hbel
      clear cx0 cx1
      have cx0 := BX.out.c0
      have cx1 := BX.out.c1
      have hcl := long_R RA.out 10 60
      go_wp2_with fail
      refine hcl.mono ?_
      clear hcl
      rintro e w4_ ⟨b_, rfl, hbe, hbel⟩
      replace HB := Lib.hid (bthen HB.out hbel)
      replace RA := Lib.hid (RA.out.below hbel)
      replace BX := Lib.hid (BX.out.below hbel)
      replace HC := Lib.hid (HC.out.below hbel)
      clear hbel
      clear cx0 cx1
      have cx0 := BX.out.c0
      have cx1 := BX.out.c1
      cases hl : PRsEncode.isLong m 10 60 with
      | true =>
        rw [hl] at hbe
        subst hbe
        clear hl
        go_wp2_with fail
        go_ret
        exact ⟨rfl, HB.out⟩
      | false =>
        rw [hl] at hbe
        subst hbe
        have LRA := Lib.hid (PRsEncode.isLong_false hl)
        clear hl
        have hrr := right9 ka nb w4_
        rw [decide_eq_true HR.out] at hrr
        have hcl := hrr
        go_wp2_with fail
        refine hcl.mono ?_
        clear hcl
        rintro e w5_ ⟨rfl, hbel⟩
        replace HB := Lib.hid (bthen HB.out hbel)
        replace RA := Lib.hid (RA.out.below hbel)
        replace BX := Lib.hid (BX.out.below hbel)
        replace HC := Lib.hid (HC.out.below hbel)
        clear hbel
        clear hrr
        clear cx0 cx1
        have cx0 := BX.out.c0
        have cx1 := BX.out.c1
        have hcl := copy_R RA.out (by have := LRA.out.1; omega) (fun r hr => by have := LRA.out.2 r hr; omega)
        go_wp2_with fail
        refine hcl.mono ?_
        clear hcl
        rintro e w6_ ⟨AO, qO, cO, rfl, hr, hbel⟩
        replace HB := Lib.hid (bthen HB.out hbel)
        replace RA := Lib.hid (RA.out.below hbel)
        replace BX := Lib.hid (BX.out.below hbel)
        replace HC := Lib.hid (HC.out.below hbel)
        have O := Lib.hid hr
        clear hr hbel
        clear cx0 cx1
        have cx0 := BX.out.c0
        have cx1 := BX.out.c1
        have hq10 : qO ≤ 1000 := by have := O.out.len; have := LRA.out.1; omega
        have hn10 : n_ ≤ 1000 := by have := HN_.out; have := LRA.out.1; omega
        have HLL : Hid (∀ r ∈ m, r.length ≤ 1000000) := Lib.hid (fun r hr => by have := LRA.out.2 r hr; omega)
        have hcl := enc_R HC.out O.out hq10 HLL.out
        go_wp2_with fail
        refine hcl.mono ?_
        clear hcl
        rintro e w7_ ⟨DE, sE, dE, ev, rfl, hev, hr, hbel⟩
        replace HB := Lib.hid (bthen HB.out hbel)
        replace RA := Lib.hid (RA.out.below hbel)
        replace BX := Lib.hid (BX.out.below hbel)
        replace HC := Lib.hid (HC.out.below hbel)
        replace O := Lib.hid (O.out.below hbel)
        have PE := Lib.hid hr
        have HEV := Lib.hid hev
        clear hr hev hbel
        clear cx0 cx1
        have cx0 := BX.out.c0
        have cx1 := BX.out.c1
        have hcl := renc_R hk1 hkn hn2 ka nb HKA.out HNB.out RA.out hn10 HLL.out
        go_wp2_with fail
        refine hcl.mono ?_
        clear hcl
        rintro e w8_ ⟨DX, sX, dX, evx, rfl, hevx, hr, hbel⟩
        replace HB := Lib.hid (bthen HB.out hbel)
        replace RA := Lib.hid (RA.out.below hbel)
        replace BX := Lib.hid (BX.out.below hbel)
        replace HC := Lib.hid (HC.out.below hbel)
        replace O := Lib.hid (O.out.below hbel)
        replace PE := Lib.hid (PE.out.below hbel)
        have PX := Lib.hid hr
        clear hr hbel
        have hee : ev = evx := by rw [HEV.out, hevx]
        subst hee
        clear hevx
        have tne : (ev != ev) = false := by simp
        clear cx0 cx1
        have cx0 := BX.out.c0
        have cx1 := BX.out.c1
        have hcl := sameall_R PE.out PX.out 1000000 (docEnc_rowsle HLL.out) (by omega)
        go_wp2_with fail
        refine hcl.mono ?_
        clear hcl
        rintro e w9_ ⟨rfl, hbel⟩
        replace HB := Lib.hid (bthen HB.out hbel)
        replace RA := Lib.hid (RA.out.below hbel)
        replace BX := Lib.hid (BX.out.below hbel)
        replace HC := Lib.hid (HC.out.below hbel)
        replace O := Lib.hid (O.out.below hbel)
        replace PE := Lib.hid (PE.out.below hbel)
        replace PX := Lib.hid (PX.out.below hbel)
        clear hbel
        clear cx0 cx1
        have cx0 := BX.out.c0
        have cx1 := BX.out.c1
        have hcl := sameall_R O.out RA.out 60 LRA.out.2 (by omega)
        go_wp2_with fail
        refine hcl.mono ?_
        clear hcl
        rintro e w10_ ⟨rfl, hbel⟩
        replace HB := Lib.hid (bthen HB.out hbel)
        replace RA := Lib.hid (RA.out.below hbel)
        replace BX := Lib.hid (BX.out.below hbel)
        replace HC := Lib.hid (HC.out.below hbel)
        replace O := Lib.hid (O.out.below hbel)
        replace PE := Lib.hid (PE.out.below hbel)
        replace PX := Lib.hid (PX.out.below hbel)
        clear hbel
        clear cx0 cx1
        have cx0 := BX.out.c0
        have cx1 := BX.out.c1
        have hcl := piece_R HC.out O.out hq10 HLL.out i
        go_wp2_with fail
        refine hcl.mono ?_
        clear hcl
        rintro e w11_ ⟨DP, sP, dP, evp, rfl, hevp, hr, hbel⟩
        replace HB := Lib.hid (bthen HB.out hbel)
        replace RA := Lib.hid (RA.out.below hbel)
        replace BX := Lib.hid (BX.out.below hbel)
        replace HC := Lib.hid (HC.out.below hbel)
        replace O := Lib.hid (O.out.below hbel)
        replace PE := Lib.hid (PE.out.below hbel)
        replace PX := Lib.hid (PX.out.below hbel)
        have ONE := Lib.hid hr
        have HEVP := Lib.hid hevp
        clear hr hevp hbel
        clear cx0 cx1
        have cx0 := BX.out.c0
        have cx1 := BX.out.c1
        clear tne
        by_cases hi : 0 ≤ i ∧ i < (n : Int)
        rotate_left
        · by_cases hE : m.length = k ∧ Alike m
          · skip
            have e1 := HEV.out
            have e2 := HEVP.out
            have e3 := ONE.out.len
            rw [docEnc_ok hE.1 hE.2] at e1
            rw [docPc_range hE.1 hE.2 hi] at e2 e3
            obtain rfl : ev = 0 := e1
            obtain rfl : evp = 3 := e2
            obtain rfl : sP = 0 := by simpa using e3.symm
            have hrw := row_R HC.out i
            rw [docRow_no hi] at hrw
            clear e3 hE
            by_cases h0 : i < 0
            · skip
              have t1 : decide (i < 0) = true := decide_eq_true h0
              clear h0 hi
              have hcl := hrw
              go_wp2_with fail
              refine hcl.mono ?_
              clear hcl
              rintro e w12_ ⟨DR, sR, dR, rfl, hr, hbel⟩
              replace HB := Lib.hid (bthen HB.out hbel)
              replace RA := Lib.hid (RA.out.below hbel)
              replace BX := Lib.hid (BX.out.below hbel)
              replace HC := Lib.hid (HC.out.below hbel)
              replace O := Lib.hid (O.out.below hbel)
              replace PE := Lib.hid (PE.out.below hbel)
              replace PX := Lib.hid (PX.out.below hbel)
              replace ONE := Lib.hid (ONE.out.below hbel)
              have HRR := Lib.hid hr
              clear hr hbel
              clear hrw
              obtain rfl : sR = 0 := by have := HRR.out.len; simpa using this.symm
              go_wp2_with fail
              go_ret
              exact ⟨rfl, HB.out⟩
            · skip
              have t1 : decide (i < 0) = false := decide_eq_false h0
              have t2 : decide (i ≥ nb) = true := decide_eq_true (by have := HNB.out; omega)
              clear h0 hi
              have hcl := hrw
              go_wp2_with fail
              refine hcl.mono ?_
              clear hcl
              rintro e w12_ ⟨DR, sR, dR, rfl, hr, hbel⟩
              replace HB := Lib.hid (bthen HB.out hbel)
              replace RA := Lib.hid (RA.out.below hbel)
              replace BX := Lib.hid (BX.out.below hbel)
              replace HC := Lib.hid (HC.out.below hbel)
              replace O := Lib.hid (O.out.below hbel)
              replace PE := Lib.hid (PE.out.below hbel)
              replace PX := Lib.hid (PX.out.below hbel)
              replace ONE := Lib.hid (ONE.out.below hbel)
              have HRR := Lib.hid hr
              clear hr hbel
              clear hrw
              obtain rfl : sR = 0 := by have := HRR.out.len; simpa using this.symm
              go_wp2_with fail
              go_ret
              exact ⟨rfl, HB.out⟩
          · skip
            have e1 := HEV.out
            have e2 := HEVP.out
            have e3 := ONE.out.len
            rw [docEnc_no hE] at e1
            rw [docPc_no hE] at e2 e3
            obtain rfl : ev = 14 := e1
            obtain rfl : evp = 14 := e2
            obtain rfl : sP = 0 := by simpa using e3.symm
            have hrw := row_R HC.out i
            rw [docRow_no hi] at hrw
            clear e3 hE
            by_cases h0 : i < 0
            · skip
              have t1 : decide (i < 0) = true := decide_eq_true h0
              clear h0 hi
              have hcl := hrw
              go_wp2_with fail
              refine hcl.mono ?_
              clear hcl
              rintro e w12_ ⟨DR, sR, dR, rfl, hr, hbel⟩
              replace HB := Lib.hid (bthen HB.out hbel)
              replace RA := Lib.hid (RA.out.below hbel)
              replace BX := Lib.hid (BX.out.below hbel)
              replace HC := Lib.hid (HC.out.below hbel)
              replace O := Lib.hid (O.out.below hbel)
              replace PE := Lib.hid (PE.out.below hbel)
              replace PX := Lib.hid (PX.out.below hbel)
              replace ONE := Lib.hid (ONE.out.below hbel)
              have HRR := Lib.hid hr
              clear hr hbel
              clear hrw
              obtain rfl : sR = 0 := by have := HRR.out.len; simpa using this.symm
              go_wp2_with fail
              go_ret
              exact ⟨rfl, HB.out⟩
            · skip
              have t1 : decide (i < 0) = false := decide_eq_false h0
              have t2 : decide (i ≥ nb) = true := decide_eq_true (by have := HNB.out; omega)
              clear h0 hi
              have hcl := hrw
              go_wp2_with fail
              refine hcl.mono ?_
              clear hcl
              rintro e w12_ ⟨DR, sR, dR, rfl, hr, hbel⟩
              replace HB := Lib.hid (bthen HB.out hbel)
              replace RA := Lib.hid (RA.out.below hbel)
              replace BX := Lib.hid (BX.out.below hbel)
              replace HC := Lib.hid (HC.out.below hbel)
              replace O := Lib.hid (O.out.below hbel)
              replace PE := Lib.hid (PE.out.below hbel)
              replace PX := Lib.hid (PX.out.below hbel)
              replace ONE := Lib.hid (ONE.out.below hbel)
              have HRR := Lib.hid hr
              clear hr hbel
              clear hrw
              obtain rfl : sR = 0 := by have := HRR.out.len; simpa using this.symm
              go_wp2_with fail
              go_ret
              exact ⟨rfl, HB.out⟩
        have HI := Lib.hid hi
        obtain ⟨j, hj⟩ : ∃ j : Nat, i = (j : Int) := ⟨i.toNat, by omega⟩
        subst hj
        have hjn : j < n := by omega
        have t1 : decide ((j : Int) < 0) = false := decide_eq_false (by omega)
        have t2 : decide ((j : Int) ≥ nb) = false := decide_eq_false (by have := HNB.out; omega)
        have t3 : ((j : Int) < nb) := by have := HNB.out; omega
        clear hi
        have bd : Below w11_.heap.size w11_ w11_.drew := ⟨rfl, rfl, rfl, Nat.le_refl _, fun _ _ => rfl⟩
        by_cases hE : m.length = k ∧ Alike m
        · skip
          have e1 := HEV.out
          have e2 := HEVP.out
          have e3 := ONE.out
          have e4 := PX.out
          rw [docEnc_ok hE.1 hE.2] at e1 e4
          rw [docPc_ok hE.1 hE.2 HI.out, Int.toNat_natCast] at e2 e3
          obtain rfl : ev = 0 := e1
          obtain rfl : evp = 0 := e2
          obtain rfl : n = sX := by have := e4.len; rw [encB_length] at this; exact this
          obtain ⟨xd, X, cX, hX, hx, hxr⟩ := e4.row (k := j) hjn
          subst hX
          rw [encB_row _ hjn] at hx hxr
          have HXR := Lib.hid hxr
          have HONE : Hid (RS _ _ _ _ (sumB ((List.range k).map (codeM k j)) m)) := Lib.hid e3
          obtain ⟨lx, hlx⟩ : ∃ lx, lx = (sumB ((List.range k).map (codeM k j)) m).length := ⟨_, rfl⟩
          rw [← hlx] at hx HXR
          have z0_0 : w11_.drew.cell? ⟨gb, 0, none⟩ = some (.int .i64 ka) := cx0
          have z1_0 : w11_.drew.cell? (xd.add j) = some (.slice X lx cX) := hx
          have p0 : (0 : Int) ≤ (j : Int) := by omega
          have p1 : (j : Int) < (n : Int) := by omega
          clear e3 e4 hE hlx hxr hx
          go_wp2
          refine start_ (n := 26) (S := fun w' => w'.cell? ⟨gb, 0, none⟩ = some (.int .i64 ka) ∧ w'.cell? (xd.add j) = some (.slice X lx cX)) (ds := []) #[false, false, false, false, false, false, false, false, false, false, false, false, false, false, false, false, false, false, false, false, false, false, false, false, false, false] (by kernel_rfl) rfl rfl ⟨z0_0, z1_0⟩ (fun hHeld => ?_)
          refine pure_ (i := 0) (N := some 115) (v := ?_) (a' := ?_) #[true, false, false, false, false, false, false, false, false, false, false, false, false, false, false, false, false, false, false, false, false, false, false, false, false, false] rfl rfl (by kernel_rfl) (fun _ _ _ h => h) (Or.inl ⟨by rfl, ?_⟩) ?_ ?_
          rotate_left
          · intro w'
            go_simp
            with_reducible rfl
          rotate_left
          · simp only [Act.put, List.setIfInBounds_toArray, List.set_cons_zero, List.set_cons_succ, i64_w, i32_w]
            rfl
          refine pure_ (i := 1) (N := some 116) (v := ?_) (a' := ?_) #[true, true, false, false, false, false, false, false, false, false, false, false, false, false, false, false, false, false, false, false, false, false, false, false, false, false] rfl rfl (by kernel_rfl) (fun _ _ _ h => h) (Or.inl ⟨by rfl, ?_⟩) ?_ ?_
          rotate_left
          · intro w'
            go_simp
            with_reducible rfl
          rotate_left
          · simp only [Act.put, List.setIfInBounds_toArray, List.set_cons_zero, List.set_cons_succ, i64_w, i32_w]
            rfl
          refine pure_ (i := 3) (N := some 118) (v := ?_) (a' := ?_) #[true, true, false, true, false, false, false, false, false, false, false, false, false, false, false, false, false, false, false, false, false, false, false, false, false, false] rfl rfl (by kernel_rfl) (fun _ _ _ h => h) (Or.inl ⟨by rfl, ?_⟩) ?_ ?_
          rotate_left
          · intro w'
            go_simp
            with_reducible rfl
          rotate_left
          · simp only [Act.put, List.setIfInBounds_toArray, List.set_cons_zero, List.set_cons_succ, i64_w, i32_w]
            rfl
          refine pure_ (i := 5) (N := some 120) (v := ?_) (a' := ?_) #[true, true, false, true, false, true, false, false, false, false, false, false, false, false, false, false, false, false, false, false, false, false, false, false, false, false] rfl rfl (by kernel_rfl) (fun _ _ _ h => h) (Or.inl ⟨by rfl, ?_⟩) ?_ ?_
          rotate_left
          · intro w'
            go_simp
            with_reducible rfl
          rotate_left
          · simp only [Act.put, List.setIfInBounds_toArray, List.set_cons_zero, List.set_cons_succ, i64_w, i32_w]
            rfl
          refine take_ (i := 4) (N := some 119) (v := ?_) (a' := ?_) #[true, true, false, true, true, true, false, false, false, false, false, false, false, false, false, false, false, false, false, false, false, false, false, false, false, false] rfl rfl (by kernel_rfl) (fun _ _ _ h => h) (Or.inl ⟨by rfl, ?_⟩) hHeld ?_ ?_
          rotate_left
          · rintro w' ⟨s0, s1⟩
            go_simp
            with_reducible rfl
          rotate_left
          · simp only [Act.put, List.setIfInBounds_toArray, List.set_cons_zero, List.set_cons_succ, i64_w, i32_w]
            rfl
          refine one_ (i := 2) (N := some 117) #[true, true, true, true, true, true, false, false, false, false, false, false, false, false, false, false, false, false, false, false, false, false, false, false, false, false] rfl rfl (by kernel_rfl) (by decide) (fun K hK => ?_)
          refine goes_ Try.func44 (by kernel_rfl) rfl #[.pointer (some ⟨gc, 0, none⟩), .int .i64 (j : Int)] (by rfl) rfl rfl (by simp only [List.map_toArray, List.map_cons, List.map_nil]; rfl) ?_
          with_reducible refine (row_R (HC.out.below bd) (j : Int)).mono ?_
          rintro e v1 ⟨D1, s1, d1, rfl, hr1, hb1⟩
          refine ⟨_, rfl, ?_⟩
          rw [docRow_ok HI.out, Int.toNat_natCast] at hr1
          have b1 := bthen bd hb1
          have HR1 := Lib.hid hr1
          have z0_1 := pw_cell_below hb1 z0_0
          have z1_1 := pw_cell_below hb1 z1_0
          clear hr1
          refine hK.out _ _ ⟨z0_1, z1_1⟩ (fun hHeld => ?_)
          clear hK K
          refine norm_ (a' := ?_) ?_ ?_
          rotate_left
          · show Act.put _ (some 117) _ = _
            simp only [Act.put, List.setIfInBounds_toArray, List.set_cons_zero, List.set_cons_succ, i64_w, i32_w]
            rfl
          refine one_ (i := 6) (N := some 121) #[true, true, true, true, true, true, true, false, false, false, false, false, false, false, false, false, false, false, false, false, false, false, false, false, false, false] rfl rfl (by kernel_rfl) (by decide) (fun K hK => ?_)
          refine goes_ Try.func45 (by kernel_rfl) rfl #[.int .i64 ka, .int .i64 (j : Int)] (by rfl) rfl rfl (by simp only [List.map_toArray, List.map_cons, List.map_nil]; rfl) ?_
          with_reducible refine (rrow_R hk1 hkn hn2 hjn ka (j : Int) HKA.out rfl v1).mono ?_
          rintro e v2 ⟨D2, s2, d2, rfl, hr2, hb2⟩
          refine ⟨_, rfl, ?_⟩
          have b2 := bthen b1 hb2
          have HR2 := Lib.hid hr2
          replace HR1 := Lib.hid (HR1.out.below hb2)
          have z0_2 := pw_cell_below hb2 z0_1
          have z1_2 := pw_cell_below hb2 z1_1
          clear hr2 b1
          refine hK.out _ _ ⟨z0_2, z1_2⟩ (fun hHeld => ?_)
          clear hK K
          refine norm_ (a' := ?_) ?_ ?_
          rotate_left
          · show Act.put _ (some 121) _ = _
            simp only [Act.put, List.setIfInBounds_toArray, List.set_cons_zero, List.set_cons_succ, i64_w, i32_w]
            rfl
          refine one_ (i := 7) (N := some 122) #[true, true, true, true, true, true, true, true, false, false, false, false, false, false, false, false, false, false, false, false, false, false, false, false, false, false] rfl rfl (by kernel_rfl) (by decide) (fun K hK => ?_)
          refine goes_ Try.func35 (by kernel_rfl) rfl #[.slice D1 s1 d1, .slice D2 s2 d2] (by rfl) rfl rfl (by simp only [List.map_toArray, List.map_cons, List.map_nil]; rfl) ?_
          with_reducible refine (same_R HR1.out HR2.out).mono ?_
          rintro e v3 ⟨rfl, hb3⟩
          refine ⟨_, rfl, ?_⟩
          have b3 := bthen b2 hb3
          have z0_3 := pw_cell_below hb3 z0_2
          have z1_3 := pw_cell_below hb3 z1_2
          clear b2
          refine hK.out _ _ ⟨z0_3, z1_3⟩ (fun hHeld => ?_)
          clear hK K
          refine norm_ (a' := ?_) ?_ ?_
          rotate_left
          · show Act.put _ (some 122) _ = _
            simp only [Act.put, List.setIfInBounds_toArray, List.set_cons_zero, List.set_cons_succ, i64_w, i32_w]
            rfl
          refine pure_ (i := 8) (N := some 123) (v := ?_) (a' := ?_) #[true, true, true, true, true, true, true, true, true, false, false, false, false, false, false, false, false, false, false, false, false, false, false, false, false, false] rfl rfl (by kernel_rfl) (fun _ _ _ h => h) (Or.inl ⟨by rfl, ?_⟩) ?_ ?_
          rotate_left
          · intro w'
            go_simp
            with_reducible rfl
          rotate_left
          · simp only [Act.put, List.setIfInBounds_toArray, List.set_cons_zero, List.set_cons_succ, i64_w, i32_w]
            rfl
          refine pure_ (i := 9) (N := some 124) (v := ?_) (a' := ?_) #[true, true, true, true, true, true, true, true, true, true, false, false, false, false, false, false, false, false, false, false, false, false, false, false, false, false] rfl rfl (by kernel_rfl) (fun _ _ _ h => h) (Or.inl ⟨by rfl, ?_⟩) ?_ ?_
          rotate_left
          · intro w'
            go_simp
            with_reducible rfl
          rotate_left
          · simp only [Act.put, List.setIfInBounds_toArray, List.set_cons_zero, List.set_cons_succ, i64_w, i32_w]
            rfl
          refine pure_ (i := 10) (N := some 125) (v := ?_) (a' := ?_) #[true, true, true, true, true, true, true, true, true, true, true, false, false, false, false, false, false, false, false, false, false, false, false, false, false, false] rfl rfl (by kernel_rfl) (fun _ _ _ h => h) (Or.inl ⟨by rfl, ?_⟩) ?_ ?_
          rotate_left
          · intro w'
            go_simp
            with_reducible rfl
          rotate_left
          · simp only [Act.put, List.setIfInBounds_toArray, List.set_cons_zero, List.set_cons_succ, i64_w, i32_w]
            rfl
          refine pure_ (i := 11) (N := some 126) (v := ?_) (a' := ?_) #[true, true, true, true, true, true, true, true, true, true, true, true, false, false, false, false, false, false, false, false, false, false, false, false, false, false] rfl rfl (by kernel_rfl) (fun _ _ _ h => h) (Or.inl ⟨by rfl, ?_⟩) ?_ ?_
          rotate_left
          · intro w'
            go_simp
            with_reducible rfl
          rotate_left
          · simp only [Act.put, List.setIfInBounds_toArray, List.set_cons_zero, List.set_cons_succ, i64_w, i32_w]
            rfl
          refine pure_ (i := 12) (N := some 127) (v := ?_) (a' := ?_) #[true, true, true, true, true, true, true, true, true, true, true, true, true, false, false, false, false, false, false, false, false, false, false, false, false, false] rfl rfl (by kernel_rfl) (fun _ _ _ h => h) (Or.inl ⟨by rfl, ?_⟩) ?_ ?_
          rotate_left
          · intro w'
            go_simp
            with_reducible rfl
          rotate_left
          · simp only [Act.put, List.setIfInBounds_toArray, List.set_cons_zero, List.set_cons_succ, i64_w, i32_w]
            rfl
          refine pure_ (i := 13) (N := some 128) (v := ?_) (a' := ?_) #[true, true, true, true, true, true, true, true, true, true, true, true, true, true, false, false, false, false, false, false, false, false, false, false, false, false] rfl rfl (by kernel_rfl) (fun _ _ _ h => h) (Or.inl ⟨by rfl, ?_⟩) ?_ ?_
          rotate_left
          · intro w'
            go_simp
            with_reducible rfl
          rotate_left
          · simp only [Act.put, List.setIfInBounds_toArray, List.set_cons_zero, List.set_cons_succ, i64_w, i32_w]
            rfl
          refine pure_ (i := 14) (N := some 129) (v := ?_) (a' := ?_) #[true, true, true, true, true, true, true, true, true, true, true, true, true, true, true, false, false, false, false, false, false, false, false, false, false, false] rfl rfl (by kernel_rfl) (fun _ _ _ h => h) (Or.inl ⟨by rfl, ?_⟩) ?_ ?_
          rotate_left
          · intro w'
            go_simp
            with_reducible rfl
          rotate_left
          · simp only [Act.put, List.setIfInBounds_toArray, List.set_cons_zero, List.set_cons_succ, i64_w, i32_w]
            rfl
          refine pure_ (i := 15) (N := some 130) (v := ?_) (a' := ?_) #[true, true, true, true, true, true, true, true, true, true, true, true, true, true, true, true, false, false, false, false, false, false, false, false, false, false] rfl rfl (by kernel_rfl) (fun _ _ _ h => h) (Or.inl ⟨by rfl, ?_⟩) ?_ ?_
          rotate_left
          · intro w'
            go_simp
            with_reducible rfl
          rotate_left
          · simp only [Act.put, List.setIfInBounds_toArray, List.set_cons_zero, List.set_cons_succ, i64_w, i32_w]
            rfl
          refine pure_ (i := 16) (N := some 131) (v := ?_) (a' := ?_) #[true, true, true, true, true, true, true, true, true, true, true, true, true, true, true, true, true, false, false, false, false, false, false, false, false, false] rfl rfl (by kernel_rfl) (fun _ _ _ h => h) (Or.inl ⟨by rfl, ?_⟩) ?_ ?_
          rotate_left
          · intro w'
            go_simp
            with_reducible rfl
          rotate_left
          · simp only [Act.put, List.setIfInBounds_toArray, List.set_cons_zero, List.set_cons_succ, i64_w, i32_w]
            rfl
          refine pure_ (i := 17) (N := some 132) (v := ?_) (a' := ?_) #[true, true, true, true, true, true, true, true, true, true, true, true, true, true, true, true, true, true, false, false, false, false, false, false, false, false] rfl rfl (by kernel_rfl) (fun _ _ _ h => h) (Or.inl ⟨by rfl, ?_⟩) ?_ ?_
          rotate_left
          · intro w'
            go_simp
            with_reducible rfl
          rotate_left
          · simp only [Act.put, List.setIfInBounds_toArray, List.set_cons_zero, List.set_cons_succ, i64_w, i32_w]
            rfl
          refine pure_ (i := 18) (N := some 133) (v := ?_) (a' := ?_) #[true, true, true, true, true, true, true, true, true, true, true, true, true, true, true, true, true, true, true, false, false, false, false, false, false, false] rfl rfl (by kernel_rfl) (fun _ _ _ h => h) (Or.inl ⟨by rfl, ?_⟩) ?_ ?_
          rotate_left
          · intro w'
            go_simp
            with_reducible rfl
          rotate_left
          · simp only [Act.put, List.setIfInBounds_toArray, List.set_cons_zero, List.set_cons_succ, i64_w, i32_w]
            rfl
          refine pure_ (i := 19) (N := some 134) (v := ?_) (a' := ?_) #[true, true, true, true, true, true, true, true, true, true, true, true, true, true, true, true, true, true, true, true, false, false, false, false, false, false] rfl rfl (by kernel_rfl) (fun _ _ _ h => h) (Or.inl ⟨by rfl, ?_⟩) ?_ ?_
          rotate_left
          · intro w'
            go_simp
            with_reducible rfl
          rotate_left
          · simp only [Act.put, List.setIfInBounds_toArray, List.set_cons_zero, List.set_cons_succ, i64_w, i32_w]
            rfl
          refine pure_ (i := 20) (N := some 135) (v := ?_) (a' := ?_) #[true, true, true, true, true, true, true, true, true, true, true, true, true, true, true, true, true, true, true, true, true, false, false, false, false, false] rfl rfl (by kernel_rfl) (fun _ _ _ h => h) (Or.inl ⟨by rfl, ?_⟩) ?_ ?_
          rotate_left
          · intro w'
            go_simp
            with_reducible rfl
          rotate_left
          · simp only [Act.put, List.setIfInBounds_toArray, List.set_cons_zero, List.set_cons_succ, i64_w, i32_w]
            rfl
          refine take_ (i := 21) (N := some 136) (v := ?_) (a' := ?_) #[true, true, true, true, true, true, true, true, true, true, true, true, true, true, true, true, true, true, true, true, true, true, false, false, false, false] rfl rfl (by kernel_rfl) (fun _ _ _ h => h) (Or.inl ⟨by rfl, ?_⟩) hHeld ?_ ?_
          rotate_left
          · rintro w' ⟨s0, s1⟩
            go_simp
            with_reducible rfl
          rotate_left
          · simp only [Act.put, List.setIfInBounds_toArray, List.set_cons_zero, List.set_cons_succ, i64_w, i32_w]
            rfl
          refine one_ (i := 22) (N := some 137) #[true, true, true, true, true, true, true, true, true, true, true, true, true, true, true, true, true, true, true, true, true, true, true, false, false, false] rfl rfl (by kernel_rfl) (by decide) (fun K hK => ?_)
          refine goes_ Try.func35 (by kernel_rfl) rfl #[.slice DP sP dP, .slice X lx cX] (by rfl) rfl rfl (by simp only [List.map_toArray, List.map_cons, List.map_nil]; rfl) ?_
          with_reducible refine (same_R (HONE.out.below b3) (HXR.out.below b3)).mono ?_
          rintro e v4 ⟨rfl, hb4⟩
          refine ⟨_, rfl, ?_⟩
          have b4 := bthen b3 hb4
          have z0_4 := pw_cell_below hb4 z0_3
          have z1_4 := pw_cell_below hb4 z1_3
          have HBF := Lib.hid (bthen HB.out b4)
          refine hK.out _ _ ⟨z0_4, z1_4⟩ (fun hHeld => ?_)
          clear hK K
          refine norm_ (a' := ?_) ?_ ?_
          rotate_left
          · show Act.put _ (some 137) _ = _
            simp only [Act.put, List.setIfInBounds_toArray, List.set_cons_zero, List.set_cons_succ, i64_w, i32_w]
            rfl
          refine pure_ (i := 23) (N := some 138) (v := ?_) (a' := ?_) #[true, true, true, true, true, true, true, true, true, true, true, true, true, true, true, true, true, true, true, true, true, true, true, true, false, false] rfl rfl (by kernel_rfl) (fun _ _ _ h => h) (Or.inl ⟨by rfl, ?_⟩) ?_ ?_
          rotate_left
          · intro w'
            go_simp
            with_reducible rfl
          rotate_left
          · simp only [Act.put, List.setIfInBounds_toArray, List.set_cons_zero, List.set_cons_succ, i64_w, i32_w]
            rfl
          refine pure_ (i := 24) (N := some 139) (v := ?_) (a' := ?_) #[true, true, true, true, true, true, true, true, true, true, true, true, true, true, true, true, true, true, true, true, true, true, true, true, true, false] rfl rfl (by kernel_rfl) (fun _ _ _ h => h) (Or.inl ⟨by rfl, ?_⟩) ?_ ?_
          rotate_left
          · intro w'
            go_simp
            with_reducible rfl
          rotate_left
          · simp only [Act.put, List.setIfInBounds_toArray, List.set_cons_zero, List.set_cons_succ, i64_w, i32_w]
            rfl
          refine pure_ (i := 25) (N := some 6) (v := ?_) (a' := ?_) #[true, true, true, true, true, true, true, true, true, true, true, true, true, true, true, true, true, true, true, true, true, true, true, true, true, true] rfl rfl (by kernel_rfl) (fun _ _ _ h => h) (Or.inl ⟨by rfl, ?_⟩) ?_ ?_
          rotate_left
          · intro w'
            go_simp
            with_reducible rfl
          rotate_left
          · simp only [Act.put, List.setIfInBounds_toArray, List.set_cons_zero, List.set_cons_succ, i64_w, i32_w]
            rfl
          refine done_ (by kernel_rfl) ?_
          go_wp2_with fail
          go_ret
          exact ⟨rfl, HBF.out⟩
        · skip
          have e1 := HEV.out
          have e2 := HEVP.out
          rw [docEnc_no hE] at e1
          rw [docPc_no hE] at e2
          obtain rfl : ev = 14 := e1
          obtain rfl : evp = 14 := e2
          have z0_0 : w11_.drew.cell? ⟨gb, 0, none⟩ = some (.int .i64 ka) := cx0
          clear hE
          go_wp2
          refine start_ (n := 26) (S := fun w' => w'.cell? ⟨gb, 0, none⟩ = some (.int .i64 ka)) (ds := []) #[false, false, false, false, false, false, false, false, false, false, false, false, false, false, false, false, false, false, false, false, false, false, false, false, false, false] (by kernel_rfl) rfl rfl (z0_0) (fun hHeld => ?_)
          refine pure_ (i := 0) (N := some 115) (v := ?_) (a' := ?_) #[true, false, false, false, false, false, false, false, false, false, false, false, false, false, false, false, false, false, false, false, false, false, false, false, false, false] rfl rfl (by kernel_rfl) (fun _ _ _ h => h) (Or.inl ⟨by rfl, ?_⟩) ?_ ?_
          rotate_left
          · intro w'
            go_simp
            with_reducible rfl
          rotate_left
          · simp only [Act.put, List.setIfInBounds_toArray, List.set_cons_zero, List.set_cons_succ, i64_w, i32_w]
            rfl
          refine pure_ (i := 1) (N := some 116) (v := ?_) (a' := ?_) #[true, true, false, false, false, false, false, false, false, false, false, false, false, false, false, false, false, false, false, false, false, false, false, false, false, false] rfl rfl (by kernel_rfl) (fun _ _ _ h => h) (Or.inl ⟨by rfl, ?_⟩) ?_ ?_
          rotate_left
          · intro w'
            go_simp
            with_reducible rfl
          rotate_left
          · simp only [Act.put, List.setIfInBounds_toArray, List.set_cons_zero, List.set_cons_succ, i64_w, i32_w]
            rfl
          refine pure_ (i := 3) (N := some 118) (v := ?_) (a' := ?_) #[true, true, false, true, false, false, false, false, false, false, false, false, false, false, false, false, false, false, false, false, false, false, false, false, false, false] rfl rfl (by kernel_rfl) (fun _ _ _ h => h) (Or.inl ⟨by rfl, ?_⟩) ?_ ?_
          rotate_left
          · intro w'
            go_simp
            with_reducible rfl
          rotate_left
          · simp only [Act.put, List.setIfInBounds_toArray, List.set_cons_zero, List.set_cons_succ, i64_w, i32_w]
            rfl
          refine pure_ (i := 5) (N := some 120) (v := ?_) (a' := ?_) #[true, true, false, true, false, true, false, false, false, false, false, false, false, false, false, false, false, false, false, false, false, false, false, false, false, false] rfl rfl (by kernel_rfl) (fun _ _ _ h => h) (Or.inl ⟨by rfl, ?_⟩) ?_ ?_
          rotate_left
          · intro w'
            go_simp
            with_reducible rfl
          rotate_left
          · simp only [Act.put, List.setIfInBounds_toArray, List.set_cons_zero, List.set_cons_succ, i64_w, i32_w]
            rfl
          refine take_ (i := 4) (N := some 119) (v := ?_) (a' := ?_) #[true, true, false, true, true, true, false, false, false, false, false, false, false, false, false, false, false, false, false, false, false, false, false, false, false, false] rfl rfl (by kernel_rfl) (fun _ _ _ h => h) (Or.inl ⟨by rfl, ?_⟩) hHeld ?_ ?_
          rotate_left
          · intro w' s0
            go_simp
            with_reducible rfl
          rotate_left
          · simp only [Act.put, List.setIfInBounds_toArray, List.set_cons_zero, List.set_cons_succ, i64_w, i32_w]
            rfl
          refine one_ (i := 2) (N := some 117) #[true, true, true, true, true, true, false, false, false, false, false, false, false, false, false, false, false, false, false, false, false, false, false, false, false, false] rfl rfl (by kernel_rfl) (by decide) (fun K hK => ?_)
          refine goes_ Try.func44 (by kernel_rfl) rfl #[.pointer (some ⟨gc, 0, none⟩), .int .i64 (j : Int)] (by rfl) rfl rfl (by simp only [List.map_toArray, List.map_cons, List.map_nil]; rfl) ?_
          with_reducible refine (row_R (HC.out.below bd) (j : Int)).mono ?_
          rintro e v1 ⟨D1, s1, d1, rfl, hr1, hb1⟩
          refine ⟨_, rfl, ?_⟩
          rw [docRow_ok HI.out, Int.toNat_natCast] at hr1
          have b1 := bthen bd hb1
          have HR1 := Lib.hid hr1
          have z0_1 := pw_cell_below hb1 z0_0
          clear hr1
          refine hK.out _ _ (z0_1) (fun hHeld => ?_)
          clear hK K
          refine norm_ (a' := ?_) ?_ ?_
          rotate_left
          · show Act.put _ (some 117) _ = _
            simp only [Act.put, List.setIfInBounds_toArray, List.set_cons_zero, List.set_cons_succ, i64_w, i32_w]
            rfl
          refine one_ (i := 6) (N := some 121) #[true, true, true, true, true, true, true, false, false, false, false, false, false, false, false, false, false, false, false, false, false, false, false, false, false, false] rfl rfl (by kernel_rfl) (by decide) (fun K hK => ?_)
          refine goes_ Try.func45 (by kernel_rfl) rfl #[.int .i64 ka, .int .i64 (j : Int)] (by rfl) rfl rfl (by simp only [List.map_toArray, List.map_cons, List.map_nil]; rfl) ?_
          with_reducible refine (rrow_R hk1 hkn hn2 hjn ka (j : Int) HKA.out rfl v1).mono ?_
          rintro e v2 ⟨D2, s2, d2, rfl, hr2, hb2⟩
          refine ⟨_, rfl, ?_⟩
          have b2 := bthen b1 hb2
          have HR2 := Lib.hid hr2
          replace HR1 := Lib.hid (HR1.out.below hb2)
          have z0_2 := pw_cell_below hb2 z0_1
          clear hr2 b1
          refine hK.out _ _ (z0_2) (fun hHeld => ?_)
          clear hK K
          refine norm_ (a' := ?_) ?_ ?_
          rotate_left
          · show Act.put _ (some 121) _ = _
            simp only [Act.put, List.setIfInBounds_toArray, List.set_cons_zero, List.set_cons_succ, i64_w, i32_w]
            rfl
          refine one_ (i := 7) (N := some 122) #[true, true, true, true, true, true, true, true, false, false, false, false, false, false, false, false, false, false, false, false, false, false, false, false, false, false] rfl rfl (by kernel_rfl) (by decide) (fun K hK => ?_)
          refine goes_ Try.func35 (by kernel_rfl) rfl #[.slice D1 s1 d1, .slice D2 s2 d2] (by rfl) rfl rfl (by simp only [List.map_toArray, List.map_cons, List.map_nil]; rfl) ?_
          with_reducible refine (same_R HR1.out HR2.out).mono ?_
          rintro e v3 ⟨rfl, hb3⟩
          refine ⟨_, rfl, ?_⟩
          have b3 := bthen b2 hb3
          have z0_3 := pw_cell_below hb3 z0_2
          clear b2
          refine hK.out _ _ (z0_3) (fun hHeld => ?_)
          clear hK K
          refine norm_ (a' := ?_) ?_ ?_
          rotate_left
          · show Act.put _ (some 122) _ = _
            simp only [Act.put, List.setIfInBounds_toArray, List.set_cons_zero, List.set_cons_succ, i64_w, i32_w]
            rfl
          refine pure_ (i := 8) (N := some 123) (v := ?_) (a' := ?_) #[true, true, true, true, true, true, true, true, true, false, false, false, false, false, false, false, false, false, false, false, false, false, false, false, false, false] rfl rfl (by kernel_rfl) (fun _ _ _ h => h) (Or.inl ⟨by rfl, ?_⟩) ?_ ?_
          rotate_left
          · intro w'
            go_simp
            with_reducible rfl
          rotate_left
          · simp only [Act.put, List.setIfInBounds_toArray, List.set_cons_zero, List.set_cons_succ, i64_w, i32_w]
            rfl
          refine pure_ (i := 9) (N := some 124) (v := ?_) (a' := ?_) #[true, true, true, true, true, true, true, true, true, true, false, false, false, false, false, false, false, false, false, false, false, false, false, false, false, false] rfl rfl (by kernel_rfl) (fun _ _ _ h => h) (Or.inl ⟨by rfl, ?_⟩) ?_ ?_
          rotate_left
          · intro w'
            go_simp
            with_reducible rfl
          rotate_left
          · simp only [Act.put, List.setIfInBounds_toArray, List.set_cons_zero, List.set_cons_succ, i64_w, i32_w]
            rfl
          refine pure_ (i := 10) (N := some 125) (v := ?_) (a' := ?_) #[true, true, true, true, true, true, true, true, true, true, true, false, false, false, false, false, false, false, false, false, false, false, false, false, false, false] rfl rfl (by kernel_rfl) (fun _ _ _ h => h) (Or.inl ⟨by rfl, ?_⟩) ?_ ?_
          rotate_left
          · intro w'
            go_simp
            with_reducible rfl
          rotate_left
          · simp only [Act.put, List.setIfInBounds_toArray, List.set_cons_zero, List.set_cons_succ, i64_w, i32_w]
            rfl
          refine pure_ (i := 11) (N := some 126) (v := ?_) (a' := ?_) #[true, true, true, true, true, true, true, true, true, true, true, true, false, false, false, false, false, false, false, false, false, false, false, false, false, false] rfl rfl (by kernel_rfl) (fun _ _ _ h => h) (Or.inl ⟨by rfl, ?_⟩) ?_ ?_
          rotate_left
          · intro w'
            go_simp
            with_reducible rfl
          rotate_left
          · simp only [Act.put, List.setIfInBounds_toArray, List.set_cons_zero, List.set_cons_succ, i64_w, i32_w]
            rfl
          refine pure_ (i := 12) (N := some 127) (v := ?_) (a' := ?_) #[true, true, true, true, true, true, true, true, true, true, true, true, true, false, false, false, false, false, false, false, false, false, false, false, false, false] rfl rfl (by kernel_rfl) (fun _ _ _ h => h) (Or.inl ⟨by rfl, ?_⟩) ?_ ?_
          rotate_left
          · intro w'
            go_simp
            with_reducible rfl
          rotate_left
          · simp only [Act.put, List.setIfInBounds_toArray, List.set_cons_zero, List.set_cons_succ, i64_w, i32_w]
            rfl
          refine pure_ (i := 13) (N := some 128) (v := ?_) (a' := ?_) #[true, true, true, true, true, true, true, true, true, true, true, true, true, true, false, false, false, false, false, false, false, false, false, false, false, false] rfl rfl (by kernel_rfl) (fun _ _ _ h => h) (Or.inl ⟨by rfl, ?_⟩) ?_ ?_
          rotate_left
          · intro w'
            go_simp
            with_reducible rfl
          rotate_left
          · simp only [Act.put, List.setIfInBounds_toArray, List.set_cons_zero, List.set_cons_succ, i64_w, i32_w]
            rfl
          refine pure_ (i := 14) (N := some 129) (v := ?_) (a' := ?_) #[true, true, true, true, true, true, true, true, true, true, true, true, true, true, true, false, false, false, false, false, false, false, false, false, false, false] rfl rfl (by kernel_rfl) (fun _ _ _ h => h) (Or.inl ⟨by rfl, ?_⟩) ?_ ?_
          rotate_left
          · intro w'
            go_simp
            with_reducible rfl
          rotate_left
          · simp only [Act.put, List.setIfInBounds_toArray, List.set_cons_zero, List.set_cons_succ, i64_w, i32_w]
            rfl
          refine pure_ (i := 15) (N := some 130) (v := ?_) (a' := ?_) #[true, true, true, true, true, true, true, true, true, true, true, true, true, true, true, true, false, false, false, false, false, false, false, false, false, false] rfl rfl (by kernel_rfl) (fun _ _ _ h => h) (Or.inl ⟨by rfl, ?_⟩) ?_ ?_
          rotate_left
          · intro w'
            go_simp
            with_reducible rfl
          rotate_left
          · simp only [Act.put, List.setIfInBounds_toArray, List.set_cons_zero, List.set_cons_succ, i64_w, i32_w]
            rfl
          refine pure_ (i := 16) (N := some 131) (v := ?_) (a' := ?_) #[true, true, true, true, true, true, true, true, true, true, true, true, true, true, true, true, true, false, false, false, false, false, false, false, false, false] rfl rfl (by kernel_rfl) (fun _ _ _ h => h) (Or.inl ⟨by rfl, ?_⟩) ?_ ?_
          rotate_left
          · intro w'
            go_simp
            with_reducible rfl
          rotate_left
          · simp only [Act.put, List.setIfInBounds_toArray, List.set_cons_zero, List.set_cons_succ, i64_w, i32_w]
            rfl
          refine pure_ (i := 17) (N := some 132) (v := undef) (a' := ?_) #[true, true, true, true, true, true, true, true, true, true, true, true, true, true, true, true, true, true, false, false, false, false, false, false, false, false] rfl rfl (by kernel_rfl) (fun _ _ _ h => h) (Or.inr ⟨by rfl, rfl⟩) ?_ ?_
          rotate_left
          · simp only [Act.put, List.setIfInBounds_toArray, List.set_cons_zero, List.set_cons_succ, i64_w, i32_w]
            rfl
          refine pure_ (i := 18) (N := some 133) (v := undef) (a' := ?_) #[true, true, true, true, true, true, true, true, true, true, true, true, true, true, true, true, true, true, true, false, false, false, false, false, false, false] rfl rfl (by kernel_rfl) (fun _ _ _ h => h) (Or.inr ⟨by rfl, rfl⟩) ?_ ?_
          rotate_left
          · simp only [Act.put, List.setIfInBounds_toArray, List.set_cons_zero, List.set_cons_succ, i64_w, i32_w]
            rfl
          refine pure_ (i := 19) (N := some 134) (v := undef) (a' := ?_) #[true, true, true, true, true, true, true, true, true, true, true, true, true, true, true, true, true, true, true, true, false, false, false, false, false, false] rfl rfl (by kernel_rfl) (fun _ _ _ h => h) (Or.inr ⟨by rfl, rfl⟩) ?_ ?_
          rotate_left
          · simp only [Act.put, List.setIfInBounds_toArray, List.set_cons_zero, List.set_cons_succ, i64_w, i32_w]
            rfl
          refine pure_ (i := 20) (N := some 135) (v := undef) (a' := ?_) #[true, true, true, true, true, true, true, true, true, true, true, true, true, true, true, true, true, true, true, true, true, false, false, false, false, false] rfl rfl (by kernel_rfl) (fun _ _ _ h => h) (Or.inr ⟨by rfl, rfl⟩) ?_ ?_
          rotate_left
          · simp only [Act.put, List.setIfInBounds_toArray, List.set_cons_zero, List.set_cons_succ, i64_w, i32_w]
            rfl
          refine pure_ (i := 21) (N := some 136) (v := undef) (a' := ?_) #[true, true, true, true, true, true, true, true, true, true, true, true, true, true, true, true, true, true, true, true, true, true, false, false, false, false] rfl rfl (by kernel_rfl) (fun _ _ _ h => h) (Or.inr ⟨by rfl, rfl⟩) ?_ ?_
          rotate_left
          · simp only [Act.put, List.setIfInBounds_toArray, List.set_cons_zero, List.set_cons_succ, i64_w, i32_w]
            rfl
          refine pure_ (i := 22) (N := some 137) (v := undef) (a' := ?_) #[true, true, true, true, true, true, true, true, true, true, true, true, true, true, true, true, true, true, true, true, true, true, true, false, false, false] rfl rfl (by kernel_rfl) (fun _ _ _ h => h) (Or.inr ⟨by rfl, rfl⟩) ?_ ?_
          rotate_left
          · simp only [Act.put, List.setIfInBounds_toArray, List.set_cons_zero, List.set_cons_succ, i64_w, i32_w]
            rfl
          refine pure_ (i := 23) (N := some 138) (v := ?_) (a' := ?_) #[true, true, true, true, true, true, true, true, true, true, true, true, true, true, true, true, true, true, true, true, true, true, true, true, false, false] rfl rfl (by kernel_rfl) (fun _ _ _ h => h) (Or.inl ⟨by rfl, ?_⟩) ?_ ?_
          rotate_left
          · intro w'
            go_simp
            with_reducible rfl
          rotate_left
          · simp only [Act.put, List.setIfInBounds_toArray, List.set_cons_zero, List.set_cons_succ, i64_w, i32_w]
            rfl
          refine pure_ (i := 24) (N := some 139) (v := ?_) (a' := ?_) #[true, true, true, true, true, true, true, true, true, true, true, true, true, true, true, true, true, true, true, true, true, true, true, true, true, false] rfl rfl (by kernel_rfl) (fun _ _ _ h => h) (Or.inl ⟨by rfl, ?_⟩) ?_ ?_
          rotate_left
          · intro w'
            go_simp
            with_reducible rfl
          rotate_left
          · simp only [Act.put, List.setIfInBounds_toArray, List.set_cons_zero, List.set_cons_succ, i64_w, i32_w]
            rfl
          refine pure_ (i := 25) (N := some 6) (v := ?_) (a' := ?_) #[true, true, true, true, true, true, true, true, true, true, true, true, true, true, true, true, true, true, true, true, true, true, true, true, true, true] rfl rfl (by kernel_rfl) (fun _ _ _ h => h) (Or.inl ⟨by rfl, ?_⟩) ?_ ?_
          rotate_left
          · intro w'
            go_simp
            with_reducible rfl
          rotate_left
          · simp only [Act.put, List.setIfInBounds_toArray, List.set_cons_zero, List.set_cons_succ, i64_w, i32_w]
            rfl
          refine done_ (by kernel_rfl) ?_
          have HBF := Lib.hid (bthen HB.out b3)
          go_wp2_with fail
          go_ret
          exact ⟨rfl, HBF.out⟩
  · skip
    have HR := Lib.hid hR
    clear hR
    go_enter Try.func8, Try.ntmps8
    go_wp2_with fail
    rw [← HW0.out, ← HGB.out]
    clear HW0 HGB
    have hcl := wakes09 w0_
    refine hcl.mono ?_
    clear hcl
    rintro e w2_ ⟨rfl, hbel⟩
    replace HB := Lib.hid (bthen HB.out hbel)
    replace RA := Lib.hid (RA.out.below hbel)
    replace BX := Lib.hid (BX.out.below hbel)
    clear hbel
    have cx0 := BX.out.c0
    have cx1 := BX.out.c1
    have hcl := code_bad ka nb HR.out w2_
    go_wp2_with fail
    refine hcl.mono ?_
    clear hcl
    rintro e w3_ ⟨rfl, hbel⟩
    replace HB := Lib.hid (bthen HB.out hbel)
    replace RA := Lib.hid (RA.out.below hbel)
    replace BX := Lib.hid (BX.out.below hbel)
    clear hbel
    clear cx0 cx1
    have cx0 := BX.out.c0
    have cx1 := BX.out.c1
    have hcl := long_R RA.out 10 60
    go_wp2_with fail
    refine hcl.mono ?_
    clear hcl
    rintro e w4_ ⟨b_, rfl, hbe, hbel⟩
    replace HB := Lib.hid (bthen HB.out hbel)
    replace RA := Lib.hid (RA.out.below hbel)
    replace BX := Lib.hid (BX.out.below hbel)
    clear hbel
    clear cx0 cx1
    have cx0 := BX.out.c0
    have cx1 := BX.out.c1
    cases hl : PRsEncode.isLong m 10 60 with
    | true =>
      rw [hl] at hbe
      subst hbe
      clear hl
      go_wp2_with fail
      go_ret
      exact ⟨rfl, HB.out⟩
    | false =>
      rw [hl] at hbe
      subst hbe
      have LRA := Lib.hid (PRsEncode.isLong_false hl)
      clear hl
      have hrr := right9 ka nb w4_
      rw [decide_eq_false HR.out] at hrr
      have hcl := hrr
      go_wp2_with fail
      refine hcl.mono ?_
      clear hcl
      rintro e w5_ ⟨rfl, hbel⟩
      replace HB := Lib.hid (bthen HB.out hbel)
      replace RA := Lib.hid (RA.out.below hbel)
      replace BX := Lib.hid (BX.out.below hbel)
      clear hbel
      clear hrr
      clear cx0 cx1
      have cx0 := BX.out.c0
      have cx1 := BX.out.c1
      go_wp2_with fail
      go_ret
      exact ⟨rfl, HB.out⟩
end Go.Proofs.Ytoijjlpkoniipaa
