/- The law RsLinear. -/
import Derived.Test.YtoijjlpkoniipaaLinPlain
set_option linter.unusedVariables false
set_option linter.unusedSimpArgs false
namespace Go.Proofs.Ytoijjlpkoniipaa
open Go.RowKit Go.Proofs.YtoijjlpkoniipaaW.PrintWords Go.Proofs.YtoijjlpkoniipaaW.PrintLast Gf Lin
set_option maxHeartbeats 4000000 in
set_option maxRecDepth 100000 in
theorem RsLinear_walk (w : World) (ka nb : Int) (_k0 : -9223372036854775808 ≤ ka) (_k1 : ka ≤ 9223372036854775807) (_n0 : -9223372036854775808 ≤ nb) (_n1 : nb ≤ 9223372036854775807)
    (A : Option Addr) (a : List (List UInt8)) (ca : Nat) (hca : a.length ≤ ca) (hra : KBB.C w A a.length (bss a)) (B : Option Addr) (b : List (List UInt8)) (cb : Nat) (hcb : b.length ≤ cb) (hrb : KBB.C w B b.length (bss b)) :
    Calls Try.prog 19 #[.agg #[.int .i64 ka, .int .i64 nb], .slice A a.length ca, .slice B b.length cb] w fun e w' => e = .returned (.bool true) ∧ Below w.heap.size w w' := by
  have RA := Lib.hid (RD.mk hca hra)
  have RB_ := Lib.hid (RD.mk hcb hrb)
  obtain ⟨q, hq_⟩ : ∃ q, q = a.length := ⟨_, rfl⟩
  obtain ⟨q2, hq2_⟩ : ∃ q2, q2 = b.length := ⟨_, rfl⟩
  rw [← hq_] at RA ⊢
  rw [← hq2_] at RB_ ⊢
  have HQ := Lib.hid hq_
  have HQ2 := Lib.hid hq2_
  clear hca hra hcb hrb hq_ hq2_
  obtain ⟨w0_, hw0⟩ : ∃ w0_, w0_ = w.alloc (.cells #[.int .i64 ka, .int .i64 nb] 49) := ⟨_, rfl⟩
  obtain ⟨gb_, hgb⟩ : ∃ gb_, gb_ = w.heap.size := ⟨_, rfl⟩
  have BX : Hid (Bx w0_ gb_ ka nb) := Lib.hid (by rw [hw0, hgb]; exact Bx.new w ka nb)
  have hbel : Below w.heap.size w w0_ := by rw [hw0]; exact Below.alloc1 _ _
  have HB := Lib.hid hbel
  replace RA := Lib.hid (RA.out.below hbel)
  replace RB_ := Lib.hid (RB_.out.below hbel)
  have HW0 := Lib.hid hw0
  have HGB := Lib.hid hgb
  clear hbel hw0 hgb
  by_cases hR : 1 ≤ ka ∧ ka ≤ nb ∧ nb ≤ 255
  · by_cases hbig : 8 < ka ∨ 24 < nb
    · skip
      have HR := Lib.hid hR
      have HBIG := Lib.hid hbig
      clear hR hbig
      go_enter Try.func19, Try.ntmps19
      go_wp2_with fail
      rw [← HW0.out, ← HGB.out]
      clear HW0 HGB
      have hcl := wakes09 w0_
      refine hcl.mono ?_
      clear hcl
      rintro e w2_ ⟨rfl, hbel⟩
      replace HB := Lib.hid (bthen HB.out hbel)
      replace RA := Lib.hid (RA.out.below hbel)
      replace RB_ := Lib.hid (RB_.out.below hbel)
      replace BX := Lib.hid (BX.out.below hbel)
      clear hbel
      have cx0 := BX.out.c0
      have cx1 := BX.out.c1
      have hcl := code_big ka nb HR.out HBIG.out w2_
      go_wp2_with fail
      refine hcl.mono ?_
      clear hcl
      rintro e w3_ ⟨rfl, hbel⟩
      replace HB := Lib.hid (bthen HB.out hbel)
      replace RA := Lib.hid (RA.out.below hbel)
      replace RB_ := Lib.hid (RB_.out.below hbel)
      replace BX := Lib.hid (BX.out.below hbel)
      clear hbel
      clear cx0 cx1
      have cx0 := BX.out.c0
      have cx1 := BX.out.c1
      go_wp2_with fail
      go_ret
      exact ⟨rfl, HB.out⟩
    · skip
      obtain ⟨k, hk⟩ : ∃ k : Nat, ka = (k : Int) := ⟨ka.toNat, by omega⟩
      obtain ⟨n, hn⟩ : ∃ n : Nat, nb = (n : Int) := ⟨nb.toNat, by omega⟩
      have hk1 : 1 ≤ k := by omega
      have hkn : k ≤ n := by omega
      have h8 : k ≤ 8 := by omega
      have h24 : n ≤ 24 := by omega
      have hn2 : n ≤ 255 := by omega
      have HKA := Lib.hid hk
      have HNB := Lib.hid hn
      have HR := Lib.hid hR
      clear hR hbig hk hn
      go_enter Try.func19, Try.ntmps19
      go_wp2_with fail
      rw [← HW0.out, ← HGB.out]
      clear HW0 HGB
      have hcl := wakes09 w0_
      refine hcl.mono ?_
      clear hcl
      rintro e w2_ ⟨rfl, hbel⟩
      replace HB := Lib.hid (bthen HB.out hbel)
      replace RA := Lib.hid (RA.out.below hbel)
      replace RB_ := Lib.hid (RB_.out.below hbel)
      replace BX := Lib.hid (BX.out.below hbel)
      clear hbel
      have cx0 := BX.out.c0
      have cx1 := BX.out.c1
      have hcl := code_ok k n hk1 hkn h8 h24 ka nb HKA.out HNB.out w2_
      go_wp2_with fail
      refine hcl.mono ?_
      clear hcl
      rintro e w3_ ⟨gc, gt, Ac, capc, rfl, hcd, hbel⟩
      replace HB := Lib.hid (bthen HB.out hbel)
      replace RA := Lib.hid (RA.out.below hbel)
      replace RB_ := Lib.hid (RB_.out.below hbel)
      replace BX := Lib.hid (BX.out.below hbel)
      have HC := Lib.hid hcd
      clear hcd hbel
      clear cx0 cx1
      have cx0 := BX.out.c0
      have cx1 := BX.out.c1
      have hrr := right9 ka nb w3_
      rw [decide_eq_true HR.out] at hrr
      have hcl := hrr
      go_wp2_with fail
      refine hcl.mono ?_
      clear hcl
      rintro e w4_ ⟨rfl, hbel⟩
      replace HB := Lib.hid (bthen HB.out hbel)
      replace RA := Lib.hid (RA.out.below hbel)
      replace RB_ := Lib.hid (RB_.out.below hbel)
      replace BX := Lib.hid (BX.out.below hbel)
      replace HC := Lib.hid (HC.out.below hbel)
      clear hbel
      clear hrr
      clear cx0 cx1
      have cx0 := BX.out.c0
      have cx1 := BX.out.c1
      have hcl := long_R RA.out 10 60
      go_wp2_with fail
      refine hcl.mono ?_
      clear hcl
      rintro e w5_ ⟨b_, rfl, hbe, hbel⟩
      replace HB := Lib.hid (bthen HB.out hbel)
      replace RA := Lib.hid (RA.out.below hbel)
      replace RB_ := Lib.hid (RB_.out.below hbel)
      replace BX := Lib.hid (BX.out.below hbel)
      replace HC := Lib.hid (HC.out.below hbel)
      clear hbel
      clear cx0 cx1
      have cx0 := BX.out.c0
      have cx1 := BX.out.c1
      cases hl : PRsEncode.isLong a 10 60 with
      | true =>
        rw [hl] at hbe
        subst hbe
        clear hl
        go_wp2_with fail
        go_ret
        exact ⟨rfl, HB.out⟩
      | false =>
        rw [hl] at hbe
        subst hbe
        have LRA := Lib.hid (PRsEncode.isLong_false hl)
        clear hl
        have hcl := long_R RB_.out 10 60
        go_wp2_with fail
        refine hcl.mono ?_
        clear hcl
        rintro e w6_ ⟨b_, rfl, hbe, hbel⟩
        replace HB := Lib.hid (bthen HB.out hbel)
        replace RA := Lib.hid (RA.out.below hbel)
        replace RB_ := Lib.hid (RB_.out.below hbel)
        replace BX := Lib.hid (BX.out.below hbel)
        replace HC := Lib.hid (HC.out.below hbel)
        clear hbel
        clear cx0 cx1
        have cx0 := BX.out.c0
        have cx1 := BX.out.c1
        cases hl : PRsEncode.isLong b 10 60 with
        | true =>
          rw [hl] at hbe
          subst hbe
          clear hl
          go_wp2_with fail
          go_ret
          exact ⟨rfl, HB.out⟩
        | false =>
          rw [hl] at hbe
          subst hbe
          have LRB_ := Lib.hid (PRsEncode.isLong_false hl)
          clear hl
          by_cases hqq : q = q2
          rotate_left
          · skip
            have t1 : ((q : Int) != (q2 : Int)) = true := by simp; omega
            clear hqq
            go_wp2_with fail
            go_ret
            exact ⟨rfl, HB.out⟩
          subst hqq
          have t1 : ((q : Int) != (q : Int)) = false := by simp
          have hq10 : q ≤ 10 := by have := LRA.out.1; have := HQ.out; omega
          have HLA : Hid (∀ i, i < q → (gr a i).length ≤ 60) := Lib.hid (fun i hi => by have := HQ.out; rw [gr_at (by omega)]; exact LRA.out.2 _ (List.getElem_mem _))
          have HLLA : Hid (∀ r ∈ a, r.length ≤ 1000000) := Lib.hid (fun r hr => by have := LRA.out.2 r hr; omega)
          have HLLB : Hid (∀ r ∈ b, r.length ≤ 1000000) := Lib.hid (fun r hr => by have := LRB_.out.2 r hr; omega)
          go_wp2_with fail
          go_loopw [10, 57] (fun v x wr => ∃ i : Nat, i ≤ q ∧ x = .int .i64 i ∧ Gw w6_ wr v i (XR a b i) ∧ ∀ t, t < i → (gr a t).length = (gr b t).length) (fun _ x _ => q - (intOf x).toNat)
          case atStart => exact ⟨0, by omega, rfl, Gw.start _, fun t ht => by omega⟩
          case round =>
            obtain ⟨i, hi, rfl, hgw, hall⟩ := hrel
            by_cases hiq : i < q
            · skip
              rename World => wo
              clear t1 cx0 cx1
              have bd : Below wo.heap.size wo wo.drew := ⟨rfl, rfl, rfl, Nat.le_refl _, fun _ _ => rfl⟩
              have hwrd := bthen hgw.bel bd
              obtain ⟨ad, PA, cA, eA, hca, hra⟩ := (RA.out.below hwrd).row (k := i) hiq
              subst eA
              obtain ⟨bd_, PB, cB, eB, hcb, hrb⟩ := (RB_.out.below hwrd).row (k := i) hiq
              subst eB
              obtain ⟨la, hla⟩ : ∃ la, la = (gr a i).length := ⟨_, rfl⟩
              obtain ⟨lb, hlb⟩ : ∃ lb, lb = (gr b i).length := ⟨_, rfl⟩
              rw [← hla] at hca hra
              rw [← hlb] at hcb hrb
              have hla60 : la ≤ 60 := by rw [hla]; exact HLA.out i hiq
              have i0 : (0 : Int) ≤ (i : Int) := by omega
              have i1 : (i : Int) < (q : Int) := by omega
              have HGW := Lib.hid (hgw.below bd)
              have HALL := Lib.hid hall
              have HRA := Lib.hid hra
              have HRB := Lib.hid hrb
              have HLA_ := Lib.hid hla
              have HLB_ := Lib.hid hlb
              have HWRD := Lib.hid hwrd
              obtain ⟨A0, cap0, rfl⟩ := hgw.form
              clear hgw hall hra hrb hwrd hla hlb
              have hcaD := hca
              have hcbD := hcb
              by_cases hll : la = lb
              rotate_left
              · skip
                have t1 : ((la : Int) != (lb : Int)) = true := by simp; omega
                go_wp2
                refine start_ (n := 11) (S := fun w' => w'.cell? (ad.add i) = some (.slice PA la cA) ∧ w'.cell? (bd_.add i) = some (.slice PB lb cB)) (ds := []) #[false, false, false, false, false, false, false, false, false, false, false] (by kernel_rfl) rfl rfl ⟨hcaD, hcbD⟩ (fun hHeld => ?_)
                refine pure_ (i := 0) (N := some 60) (v := ?_) (a' := ?_) #[true, false, false, false, false, false, false, false, false, false, false] rfl rfl (by kernel_rfl) (fun _ _ _ h => h) (Or.inl ⟨by rfl, ?_⟩) ?_ ?_
                rotate_left
                · intro w'
                  go_simp
                  with_reducible rfl
                rotate_left
                · simp only [Act.put, List.setIfInBounds_toArray, List.set_cons_zero, List.set_cons_succ, i64_w, i32_w]
                  rfl
                refine pure_ (i := 1) (N := some 61) (v := ?_) (a' := ?_) #[true, true, false, false, false, false, false, false, false, false, false] rfl rfl (by kernel_rfl) (fun _ _ _ h => h) (Or.inl ⟨by rfl, ?_⟩) ?_ ?_
                rotate_left
                · intro w'
                  go_simp
                  with_reducible rfl
                rotate_left
                · simp only [Act.put, List.setIfInBounds_toArray, List.set_cons_zero, List.set_cons_succ, i64_w, i32_w]
                  rfl
                refine pure_ (i := 2) (N := some 62) (v := ?_) (a' := ?_) #[true, true, true, false, false, false, false, false, false, false, false] rfl rfl (by kernel_rfl) (fun _ _ _ h => h) (Or.inl ⟨by rfl, ?_⟩) ?_ ?_
                rotate_left
                · intro w'
                  go_simp
                  with_reducible rfl
                rotate_left
                · simp only [Act.put, List.setIfInBounds_toArray, List.set_cons_zero, List.set_cons_succ, i64_w, i32_w]
                  rfl
                refine pure_ (i := 5) (N := some 65) (v := ?_) (a' := ?_) #[true, true, true, false, false, true, false, false, false, false, false] rfl rfl (by kernel_rfl) (fun _ _ _ h => h) (Or.inl ⟨by rfl, ?_⟩) ?_ ?_
                rotate_left
                · intro w'
                  go_simp
                  with_reducible rfl
                rotate_left
                · simp only [Act.put, List.setIfInBounds_toArray, List.set_cons_zero, List.set_cons_succ, i64_w, i32_w]
                  rfl
                refine pure_ (i := 6) (N := some 66) (v := ?_) (a' := ?_) #[true, true, true, false, false, true, true, false, false, false, false] rfl rfl (by kernel_rfl) (fun _ _ _ h => h) (Or.inl ⟨by rfl, ?_⟩) ?_ ?_
                rotate_left
                · intro w'
                  go_simp
                  with_reducible rfl
                rotate_left
                · simp only [Act.put, List.setIfInBounds_toArray, List.set_cons_zero, List.set_cons_succ, i64_w, i32_w]
                  rfl
                refine pure_ (i := 7) (N := some 67) (v := ?_) (a' := ?_) #[true, true, true, false, false, true, true, true, false, false, false] rfl rfl (by kernel_rfl) (fun _ _ _ h => h) (Or.inl ⟨by rfl, ?_⟩) ?_ ?_
                rotate_left
                · intro w'
                  go_simp
                  with_reducible rfl
                rotate_left
                · simp only [Act.put, List.setIfInBounds_toArray, List.set_cons_zero, List.set_cons_succ, i64_w, i32_w]
                  rfl
                refine take_ (i := 3) (N := some 63) (v := ?_) (a' := ?_) #[true, true, true, true, false, true, true, true, false, false, false] rfl rfl (by kernel_rfl) (fun _ _ _ h => h) (Or.inl ⟨by rfl, ?_⟩) hHeld ?_ ?_
                rotate_left
                · rintro w' ⟨s0, s1⟩
                  go_simp
                  with_reducible rfl
                rotate_left
                · simp only [Act.put, List.setIfInBounds_toArray, List.set_cons_zero, List.set_cons_succ, i64_w, i32_w]
                  rfl
                refine pure_ (i := 4) (N := some 64) (v := ?_) (a' := ?_) #[true, true, true, true, true, true, true, true, false, false, false] rfl rfl (by kernel_rfl) (fun _ _ _ h => h) (Or.inl ⟨by rfl, ?_⟩) ?_ ?_
                rotate_left
                · intro w'
                  go_simp
                  with_reducible rfl
                rotate_left
                · simp only [Act.put, List.setIfInBounds_toArray, List.set_cons_zero, List.set_cons_succ, i64_w, i32_w]
                  rfl
                refine take_ (i := 8) (N := some 68) (v := ?_) (a' := ?_) #[true, true, true, true, true, true, true, true, true, false, false] rfl rfl (by kernel_rfl) (fun _ _ _ h => h) (Or.inl ⟨by rfl, ?_⟩) hHeld ?_ ?_
                rotate_left
                · rintro w' ⟨s0, s1⟩
                  go_simp
                  with_reducible rfl
                rotate_left
                · simp only [Act.put, List.setIfInBounds_toArray, List.set_cons_zero, List.set_cons_succ, i64_w, i32_w]
                  rfl
                refine pure_ (i := 9) (N := some 69) (v := ?_) (a' := ?_) #[true, true, true, true, true, true, true, true, true, true, false] rfl rfl (by kernel_rfl) (fun _ _ _ h => h) (Or.inl ⟨by rfl, ?_⟩) ?_ ?_
                rotate_left
                · intro w'
                  go_simp
                  with_reducible rfl
                rotate_left
                · simp only [Act.put, List.setIfInBounds_toArray, List.set_cons_zero, List.set_cons_succ, i64_w, i32_w]
                  rfl
                refine pure_ (i := 10) (N := some 70) (v := ?_) (a' := ?_) #[true, true, true, true, true, true, true, true, true, true, true] rfl rfl (by kernel_rfl) (fun _ _ _ h => h) (Or.inl ⟨by rfl, ?_⟩) ?_ ?_
                rotate_left
                · intro w'
                  go_simp
                  with_reducible rfl
                rotate_left
                · simp only [Act.put, List.setIfInBounds_toArray, List.set_cons_zero, List.set_cons_succ, i64_w, i32_w]
                  rfl
                refine done_ (by kernel_rfl) ?_
                go_wp2_with fail
                go_ret
                exact ⟨rfl, bthen HB.out HWRD.out⟩
              have t1 : ((la : Int) != (lb : Int)) = false := by rw [hll]; simp
              go_wp2
              refine start_ (n := 11) (S := fun w' => w'.cell? (ad.add i) = some (.slice PA la cA) ∧ w'.cell? (bd_.add i) = some (.slice PB lb cB)) (ds := []) #[false, false, false, false, false, false, false, false, false, false, false] (by kernel_rfl) rfl rfl ⟨hcaD, hcbD⟩ (fun hHeld => ?_)
              refine pure_ (i := 0) (N := some 60) (v := ?_) (a' := ?_) #[true, false, false, false, false, false, false, false, false, false, false] rfl rfl (by kernel_rfl) (fun _ _ _ h => h) (Or.inl ⟨by rfl, ?_⟩) ?_ ?_
              rotate_left
              · intro w'
                go_simp
                with_reducible rfl
              rotate_left
              · simp only [Act.put, List.setIfInBounds_toArray, List.set_cons_zero, List.set_cons_succ, i64_w, i32_w]
                rfl
              refine pure_ (i := 1) (N := some 61) (v := ?_) (a' := ?_) #[true, true, false, false, false, false, false, false, false, false, false] rfl rfl (by kernel_rfl) (fun _ _ _ h => h) (Or.inl ⟨by rfl, ?_⟩) ?_ ?_
              rotate_left
              · intro w'
                go_simp
                with_reducible rfl
              rotate_left
              · simp only [Act.put, List.setIfInBounds_toArray, List.set_cons_zero, List.set_cons_succ, i64_w, i32_w]
                rfl
              refine pure_ (i := 2) (N := some 62) (v := ?_) (a' := ?_) #[true, true, true, false, false, false, false, false, false, false, false] rfl rfl (by kernel_rfl) (fun _ _ _ h => h) (Or.inl ⟨by rfl, ?_⟩) ?_ ?_
              rotate_left
              · intro w'
                go_simp
                with_reducible rfl
              rotate_left
              · simp only [Act.put, List.setIfInBounds_toArray, List.set_cons_zero, List.set_cons_succ, i64_w, i32_w]
                rfl
              refine pure_ (i := 5) (N := some 65) (v := ?_) (a' := ?_) #[true, true, true, false, false, true, false, false, false, false, false] rfl rfl (by kernel_rfl) (fun _ _ _ h => h) (Or.inl ⟨by rfl, ?_⟩) ?_ ?_
              rotate_left
              · intro w'
                go_simp
                with_reducible rfl
              rotate_left
              · simp only [Act.put, List.setIfInBounds_toArray, List.set_cons_zero, List.set_cons_succ, i64_w, i32_w]
                rfl
              refine pure_ (i := 6) (N := some 66) (v := ?_) (a' := ?_) #[true, true, true, false, false, true, true, false, false, false, false] rfl rfl (by kernel_rfl) (fun _ _ _ h => h) (Or.inl ⟨by rfl, ?_⟩) ?_ ?_
              rotate_left
              · intro w'
                go_simp
                with_reducible rfl
              rotate_left
              · simp only [Act.put, List.setIfInBounds_toArray, List.set_cons_zero, List.set_cons_succ, i64_w, i32_w]
                rfl
              refine pure_ (i := 7) (N := some 67) (v := ?_) (a' := ?_) #[true, true, true, false, false, true, true, true, false, false, false] rfl rfl (by kernel_rfl) (fun _ _ _ h => h) (Or.inl ⟨by rfl, ?_⟩) ?_ ?_
              rotate_left
              · intro w'
                go_simp
                with_reducible rfl
              rotate_left
              · simp only [Act.put, List.setIfInBounds_toArray, List.set_cons_zero, List.set_cons_succ, i64_w, i32_w]
                rfl
              refine take_ (i := 3) (N := some 63) (v := ?_) (a' := ?_) #[true, true, true, true, false, true, true, true, false, false, false] rfl rfl (by kernel_rfl) (fun _ _ _ h => h) (Or.inl ⟨by rfl, ?_⟩) hHeld ?_ ?_
              rotate_left
              · rintro w' ⟨s0, s1⟩
                go_simp
                with_reducible rfl
              rotate_left
              · simp only [Act.put, List.setIfInBounds_toArray, List.set_cons_zero, List.set_cons_succ, i64_w, i32_w]
                rfl
              refine pure_ (i := 4) (N := some 64) (v := ?_) (a' := ?_) #[true, true, true, true, true, true, true, true, false, false, false] rfl rfl (by kernel_rfl) (fun _ _ _ h => h) (Or.inl ⟨by rfl, ?_⟩) ?_ ?_
              rotate_left
              · intro w'
                go_simp
                with_reducible rfl
              rotate_left
              · simp only [Act.put, List.setIfInBounds_toArray, List.set_cons_zero, List.set_cons_succ, i64_w, i32_w]
                rfl
              refine take_ (i := 8) (N := some 68) (v := ?_) (a' := ?_) #[true, true, true, true, true, true, true, true, true, false, false] rfl rfl (by kernel_rfl) (fun _ _ _ h => h) (Or.inl ⟨by rfl, ?_⟩) hHeld ?_ ?_
              rotate_left
              · rintro w' ⟨s0, s1⟩
                go_simp
                with_reducible rfl
              rotate_left
              · simp only [Act.put, List.setIfInBounds_toArray, List.set_cons_zero, List.set_cons_succ, i64_w, i32_w]
                rfl
              refine pure_ (i := 9) (N := some 69) (v := ?_) (a' := ?_) #[true, true, true, true, true, true, true, true, true, true, false] rfl rfl (by kernel_rfl) (fun _ _ _ h => h) (Or.inl ⟨by rfl, ?_⟩) ?_ ?_
              rotate_left
              · intro w'
                go_simp
                with_reducible rfl
              rotate_left
              · simp only [Act.put, List.setIfInBounds_toArray, List.set_cons_zero, List.set_cons_succ, i64_w, i32_w]
                rfl
              refine pure_ (i := 10) (N := some 70) (v := ?_) (a' := ?_) #[true, true, true, true, true, true, true, true, true, true, true] rfl rfl (by kernel_rfl) (fun _ _ _ h => h) (Or.inl ⟨by rfl, ?_⟩) ?_ ?_
              rotate_left
              · intro w'
                go_simp
                with_reducible rfl
              rotate_left
              · simp only [Act.put, List.setIfInBounds_toArray, List.set_cons_zero, List.set_cons_succ, i64_w, i32_w]
                rfl
              refine done_ (by kernel_rfl) ?_
              subst hll
              go_wp2_with fail
              go_loopw [12, 76] (fun v x wj => ∃ j : Nat, j ≤ la ∧ x = .int .i64 j ∧ Gb wo.drew wj v j ((List.range j).map (xrow a b i))) (fun _ x _ => la - (intOf x).toNat)
              case atStart => exact ⟨0, by omega, rfl, Gb.start _⟩
              case round =>
                obtain ⟨j, hj, rfl, hgb⟩ := hrel
                by_cases hjl : j < la
                · skip
                  obtain ⟨pa, eA, hba⟩ := HRA.out.byte (k := j) hjl
                  subst eA
                  obtain ⟨pb, eB, hbb⟩ := HRB.out.byte (k := j) hjl
                  subst eB
                  obtain ⟨x, hx⟩ : ∃ x, x = gb (gr a i) j := ⟨_, rfl⟩
                  obtain ⟨y, hy⟩ : ∃ y, y = gb (gr b i) j := ⟨_, rfl⟩
                  rw [← hx] at hba
                  rw [← hy] at hbb
                  obtain ⟨v, hv⟩ : ∃ v, v = x ^^^ y := ⟨_, rfl⟩
                  have hxx : bits .xor .u8 (x.toNat : Int) (y.toNat : Int) = (v.toNat : Int) := by rw [hv]; exact u8_xor_all x y
                  have bj : Below wr.heap.size wr wr.drew := ⟨rfl, rfl, rfl, Nat.le_refl _, fun _ _ => rfl⟩
                  have hbb_ := hgb.bel.trans (bj.mono hgb.bel.size)
                  have f0 := pw_cell_below hbb_ hca
                  have f1 := pw_cell_below hbb_ hba
                  have f2 := pw_cell_below hbb_ hcb
                  have f3 := pw_cell_below hbb_ hbb
                  obtain ⟨A2, cap2, w8, hr, hgb2⟩ := (hgb.drew).step v (by omega) 35
                  have ev : (List.range j).map (xrow a b i) ++ [v] = (List.range (j + 1)).map (xrow a b i) := by
                    rw [range_map_succ, hv, hx, hy]; rfl
                  rw [ev] at hgb2
                  have HGB2 := Lib.hid hgb2
                  have j0 : (0 : Int) ≤ (j : Int) := by omega
                  have j1 : (j : Int) < (la : Int) := by omega
                  obtain ⟨A1, cap1, rfl⟩ := hgb.form
                  have HVX := Lib.hid hv
                  clear hgb2 hgb ev hv hx hy hba hbb hbb_ t1
                  go_wp2
                  refine start_ (n := 19) (S := fun w' => w'.cell? (ad.add i) = some (.slice (some pa) la cA) ∧ w'.cell? (pa.add j) = some (.int .u8 (x.toNat : Int)) ∧ w'.cell? (bd_.add i) = some (.slice (some pb) la cB) ∧ w'.cell? (pb.add j) = some (.int .u8 (y.toNat : Int))) (ds := [17]) #[false, false, false, false, false, false, false, false, false, false, false, false, false, false, false, false, false, false, false] (by kernel_rfl) rfl rfl ⟨f0, f1, f2, f3⟩ (fun hHeld => ?_)
                  refine pure_ (i := 0) (N := some 79) (v := ?_) (a' := ?_) #[true, false, false, false, false, false, false, false, false, false, false, false, false, false, false, false, false, false, false] rfl rfl (by kernel_rfl) (fun _ _ _ h => h) (Or.inl ⟨by rfl, ?_⟩) ?_ ?_
                  rotate_left
                  · intro w'
                    go_simp
                    with_reducible rfl
                  rotate_left
                  · simp only [Act.put, List.setIfInBounds_toArray, List.set_cons_zero, List.set_cons_succ, i64_w, i32_w]
                    rfl
                  refine pure_ (i := 1) (N := some 80) (v := ?_) (a' := ?_) #[true, true, false, false, false, false, false, false, false, false, false, false, false, false, false, false, false, false, false] rfl rfl (by kernel_rfl) (fun _ _ _ h => h) (Or.inl ⟨by rfl, ?_⟩) ?_ ?_
                  rotate_left
                  · intro w'
                    go_simp
                    with_reducible rfl
                  rotate_left
                  · simp only [Act.put, List.setIfInBounds_toArray, List.set_cons_zero, List.set_cons_succ, i64_w, i32_w]
                    rfl
                  refine pure_ (i := 2) (N := some 81) (v := ?_) (a' := ?_) #[true, true, true, false, false, false, false, false, false, false, false, false, false, false, false, false, false, false, false] rfl rfl (by kernel_rfl) (fun _ _ _ h => h) (Or.inl ⟨by rfl, ?_⟩) ?_ ?_
                  rotate_left
                  · intro w'
                    go_simp
                    with_reducible rfl
                  rotate_left
                  · simp only [Act.put, List.setIfInBounds_toArray, List.set_cons_zero, List.set_cons_succ, i64_w, i32_w]
                    rfl
                  refine pure_ (i := 3) (N := some 82) (v := ?_) (a' := ?_) #[true, true, true, true, false, false, false, false, false, false, false, false, false, false, false, false, false, false, false] rfl rfl (by kernel_rfl) (fun _ _ _ h => h) (Or.inl ⟨by rfl, ?_⟩) ?_ ?_
                  rotate_left
                  · intro w'
                    go_simp
                    with_reducible rfl
                  rotate_left
                  · simp only [Act.put, List.setIfInBounds_toArray, List.set_cons_zero, List.set_cons_succ, i64_w, i32_w]
                    rfl
                  refine pure_ (i := 5) (N := some 84) (v := ?_) (a' := ?_) #[true, true, true, true, false, true, false, false, false, false, false, false, false, false, false, false, false, false, false] rfl rfl (by kernel_rfl) (fun _ _ _ h => h) (Or.inl ⟨by rfl, ?_⟩) ?_ ?_
                  rotate_left
                  · intro w'
                    go_simp
                    with_reducible rfl
                  rotate_left
                  · simp only [Act.put, List.setIfInBounds_toArray, List.set_cons_zero, List.set_cons_succ, i64_w, i32_w]
                    rfl
                  refine pure_ (i := 8) (N := some 87) (v := ?_) (a' := ?_) #[true, true, true, true, false, true, false, false, true, false, false, false, false, false, false, false, false, false, false] rfl rfl (by kernel_rfl) (fun _ _ _ h => h) (Or.inl ⟨by rfl, ?_⟩) ?_ ?_
                  rotate_left
                  · intro w'
                    go_simp
                    with_reducible rfl
                  rotate_left
                  · simp only [Act.put, List.setIfInBounds_toArray, List.set_cons_zero, List.set_cons_succ, i64_w, i32_w]
                    rfl
                  refine pure_ (i := 9) (N := some 88) (v := ?_) (a' := ?_) #[true, true, true, true, false, true, false, false, true, true, false, false, false, false, false, false, false, false, false] rfl rfl (by kernel_rfl) (fun _ _ _ h => h) (Or.inl ⟨by rfl, ?_⟩) ?_ ?_
                  rotate_left
                  · intro w'
                    go_simp
                    with_reducible rfl
                  rotate_left
                  · simp only [Act.put, List.setIfInBounds_toArray, List.set_cons_zero, List.set_cons_succ, i64_w, i32_w]
                    rfl
                  refine pure_ (i := 10) (N := some 89) (v := ?_) (a' := ?_) #[true, true, true, true, false, true, false, false, true, true, true, false, false, false, false, false, false, false, false] rfl rfl (by kernel_rfl) (fun _ _ _ h => h) (Or.inl ⟨by rfl, ?_⟩) ?_ ?_
                  rotate_left
                  · intro w'
                    go_simp
                    with_reducible rfl
                  rotate_left
                  · simp only [Act.put, List.setIfInBounds_toArray, List.set_cons_zero, List.set_cons_succ, i64_w, i32_w]
                    rfl
                  refine pure_ (i := 12) (N := some 91) (v := ?_) (a' := ?_) #[true, true, true, true, false, true, false, false, true, true, true, false, true, false, false, false, false, false, false] rfl rfl (by kernel_rfl) (fun _ _ _ h => h) (Or.inl ⟨by rfl, ?_⟩) ?_ ?_
                  rotate_left
                  · intro w'
                    go_simp
                    with_reducible rfl
                  rotate_left
                  · simp only [Act.put, List.setIfInBounds_toArray, List.set_cons_zero, List.set_cons_succ, i64_w, i32_w]
                    rfl
                  refine take_ (i := 4) (N := some 83) (v := ?_) (a' := ?_) #[true, true, true, true, true, true, false, false, true, true, true, false, true, false, false, false, false, false, false] rfl rfl (by kernel_rfl) (fun _ _ _ h => h) (Or.inl ⟨by rfl, ?_⟩) hHeld ?_ ?_
                  rotate_left
                  · rintro w' ⟨s0, s1, s2, s3⟩
                    go_simp
                    with_reducible rfl
                  rotate_left
                  · simp only [Act.put, List.setIfInBounds_toArray, List.set_cons_zero, List.set_cons_succ, i64_w, i32_w]
                    rfl
                  refine pure_ (i := 6) (N := some 85) (v := ?_) (a' := ?_) #[true, true, true, true, true, true, true, false, true, true, true, false, true, false, false, false, false, false, false] rfl rfl (by kernel_rfl) (fun _ _ _ h => h) (Or.inl ⟨by rfl, ?_⟩) ?_ ?_
                  rotate_left
                  · intro w'
                    go_simp
                    with_reducible rfl
                  rotate_left
                  · simp only [Act.put, List.setIfInBounds_toArray, List.set_cons_zero, List.set_cons_succ, i64_w, i32_w]
                    rfl
                  refine take_ (i := 7) (N := some 86) (v := ?_) (a' := ?_) #[true, true, true, true, true, true, true, true, true, true, true, false, true, false, false, false, false, false, false] rfl rfl (by kernel_rfl) (fun _ _ _ h => h) (Or.inl ⟨by rfl, ?_⟩) hHeld ?_ ?_
                  rotate_left
                  · rintro w' ⟨s0, s1, s2, s3⟩
                    go_simp
                    with_reducible rfl
                  rotate_left
                  · simp only [Act.put, List.setIfInBounds_toArray, List.set_cons_zero, List.set_cons_succ, i64_w, i32_w]
                    rfl
                  refine take_ (i := 11) (N := some 90) (v := ?_) (a' := ?_) #[true, true, true, true, true, true, true, true, true, true, true, true, true, false, false, false, false, false, false] rfl rfl (by kernel_rfl) (fun _ _ _ h => h) (Or.inl ⟨by rfl, ?_⟩) hHeld ?_ ?_
                  rotate_left
                  · rintro w' ⟨s0, s1, s2, s3⟩
                    go_simp
                    with_reducible rfl
                  rotate_left
                  · simp only [Act.put, List.setIfInBounds_toArray, List.set_cons_zero, List.set_cons_succ, i64_w, i32_w]
                    rfl
                  refine pure_ (i := 13) (N := some 92) (v := ?_) (a' := ?_) #[true, true, true, true, true, true, true, true, true, true, true, true, true, true, false, false, false, false, false] rfl rfl (by kernel_rfl) (fun _ _ _ h => h) (Or.inl ⟨by rfl, ?_⟩) ?_ ?_
                  rotate_left
                  · intro w'
                    go_simp
                    with_reducible rfl
                  rotate_left
                  · simp only [Act.put, List.setIfInBounds_toArray, List.set_cons_zero, List.set_cons_succ, i64_w, i32_w]
                    rfl
                  refine take_ (i := 14) (N := some 93) (v := ?_) (a' := ?_) #[true, true, true, true, true, true, true, true, true, true, true, true, true, true, true, false, false, false, false] rfl rfl (by kernel_rfl) (fun _ _ _ h => h) (Or.inl ⟨by rfl, ?_⟩) hHeld ?_ ?_
                  rotate_left
                  · rintro w' ⟨s0, s1, s2, s3⟩
                    go_simp
                    with_reducible rfl
                  rotate_left
                  · simp only [Act.put, List.setIfInBounds_toArray, List.set_cons_zero, List.set_cons_succ, i64_w, i32_w]
                    rfl
                  refine pure_ (i := 15) (N := some 94) (v := ?_) (a' := ?_) #[true, true, true, true, true, true, true, true, true, true, true, true, true, true, true, true, false, false, false] rfl rfl (by kernel_rfl) (fun _ _ _ h => h) (Or.inl ⟨by rfl, ?_⟩) ?_ ?_
                  rotate_left
                  · intro w'
                    go_simp
                    with_reducible rfl
                  rotate_left
                  · simp only [Act.put, List.setIfInBounds_toArray, List.set_cons_zero, List.set_cons_succ, i64_w, i32_w]
                    rfl
                  refine one_ (i := 16) (N := some 95) #[true, true, true, true, true, true, true, true, true, true, true, true, true, true, true, true, true, false, false] rfl rfl (by kernel_rfl) (by decide) (fun K hK => ?_)
                  refine value_ (w1 := ?_) (v := ?_) (by rfl) rfl ?_ ?_
                  rotate_left 2
                  · go_simp
                    constructor
                    · rfl
                    · rfl
                  have g0 := pw_cell_below (Below.alloc1 _ (.cells #[.int .u8 (v.toNat : Int)] 5)) f0
                  have g1 := pw_cell_below (Below.alloc1 _ (.cells #[.int .u8 (v.toNat : Int)] 5)) f1
                  have g2 := pw_cell_below (Below.alloc1 _ (.cells #[.int .u8 (v.toNat : Int)] 5)) f2
                  have g3 := pw_cell_below (Below.alloc1 _ (.cells #[.int .u8 (v.toNat : Int)] 5)) f3
                  refine hK.out _ _ ⟨g0, g1, g2, g3⟩ (fun hHeld => ?_)
                  clear hK K
                  refine norm_ (a' := ?_) ?_ ?_
                  rotate_left
                  · show Act.put _ (some 95) _ = _
                    simp only [Act.put, List.setIfInBounds_toArray, List.set_cons_zero, List.set_cons_succ, i64_w, i32_w]
                    rfl
                  refine last_ (i := 17) (N := some 96) #[true, true, true, true, true, true, true, true, true, true, true, true, true, true, true, true, true, true, false] rfl rfl (by kernel_rfl) (by decide) (fun K hK => ?_)
                  refine value_ (w1 := ?_) (v := ?_) (by rfl) rfl ?_ ?_
                  rotate_left 2
                  · rw [exec_append rfl (by rfl) (by rfl) hr]
                  refine hK.out _ _ ?_
                  clear hK K
                  refine norm_ (a' := ?_) ?_ ?_
                  rotate_left
                  · show Act.put _ (some 96) _ = _
                    simp only [Act.put, List.setIfInBounds_toArray, List.set_cons_zero, List.set_cons_succ, i64_w, i32_w]
                    rfl
                  refine pure_ (i := 18) (N := some 12) (v := ?_) (a' := ?_) #[true, true, true, true, true, true, true, true, true, true, true, true, true, true, true, true, true, true, true] rfl rfl (by kernel_rfl) (fun _ _ _ h => h) (Or.inl ⟨by rfl, ?_⟩) ?_ ?_
                  rotate_left
                  · intro w'
                    go_simp
                    with_reducible rfl
                  rotate_left
                  · simp only [Act.put, List.setIfInBounds_toArray, List.set_cons_zero, List.set_cons_succ, i64_w, i32_w]
                    rfl
                  refine done_ (by kernel_rfl) ?_
                  go_wp2_with fail
                  exact ⟨⟨j + 1, by omega, by go_num, HGB2.out⟩, by simp [intOf]; omega⟩
                obtain rfl : la = j := by omega
                obtain ⟨A1, cap1, rfl⟩ := hgb.form
                obtain ⟨A3, cap3, w9, hr, hgw3⟩ := HGW.out.step hgb.bel (hgb.rs (by omega)) (HGW.out.fresh hgb.fresh) (by omega) 36
                have ex : XR a b i ++ [(List.range la).map (xrow a b i)] = XR a b (i + 1) := by rw [XR_succ, ← HLA_.out]
                rw [ex] at hgw3
                have HGW3 := Lib.hid hgw3
                have HALL2 : Hid (∀ t, t < i + 1 → (gr a t).length = (gr b t).length) := Lib.hid (fun t ht => by
                  by_cases hti : t = i
                  · subst hti; rw [← HLA_.out, ← HLB_.out]
                  · exact HALL.out t (by omega))
                clear hgw3 hgb ex t1
                go_wp2_with (at_builtin; refine Lib.wpList_append_run _ rfl _ _ _ _ rfl _ _ rfl rfl _ _ hr ?_)
                exact ⟨⟨i + 1, by omega, by go_num, HGW3.out, HALL2.out⟩, by simp [intOf]; omega⟩
            obtain rfl : q = i := by omega
            obtain ⟨A0, cap0, rfl⟩ := hgw.form
            have BOTH := Lib.hid (hgw.rd (by omega))
            have HALL := Lib.hid hall
            have hbl := hgw.bel
            replace HB := Lib.hid (bthen HB.out hbl)
            replace RA := Lib.hid (RA.out.below hbl)
            replace RB_ := Lib.hid (RB_.out.below hbl)
            replace BX := Lib.hid (BX.out.below hbl)
            replace HC := Lib.hid (HC.out.below hbl)
            clear hgw hall hbl hiq t1
            clear cx0 cx1
            have cx0 := BX.out.c0
            have cx1 := BX.out.c1
            have HLLX : Hid (∀ r ∈ XR a b q, r.length ≤ 1000000) := Lib.hid (fun r hr => by
              unfold XR at hr
              rw [List.mem_map] at hr
              obtain ⟨t, ht, rfl⟩ := hr
              rw [List.mem_range] at ht
              have := HLA.out t ht
              simp; omega)
            have hcl := enc_R HC.out RA.out (by omega) HLLA.out
            go_wp2_with fail
            refine hcl.mono ?_
            clear hcl
            rintro e w7_ ⟨D1, s1, d1, ev1, rfl, hev, hr, hbel⟩
            replace HB := Lib.hid (bthen HB.out hbel)
            replace RA := Lib.hid (RA.out.below hbel)
            replace RB_ := Lib.hid (RB_.out.below hbel)
            replace BX := Lib.hid (BX.out.below hbel)
            replace HC := Lib.hid (HC.out.below hbel)
            replace BOTH := Lib.hid (BOTH.out.below hbel)
            have X := Lib.hid hr
            have E1 := Lib.hid hev
            clear hr hev hbel
            clear cx0 cx1
            have cx0 := BX.out.c0
            have cx1 := BX.out.c1
            have hcl := enc_R HC.out RB_.out (by omega) HLLB.out
            go_wp2_with fail
            refine hcl.mono ?_
            clear hcl
            rintro e w8_ ⟨D2, s2, d2, ev2, rfl, hev, hr, hbel⟩
            replace HB := Lib.hid (bthen HB.out hbel)
            replace RA := Lib.hid (RA.out.below hbel)
            replace RB_ := Lib.hid (RB_.out.below hbel)
            replace BX := Lib.hid (BX.out.below hbel)
            replace HC := Lib.hid (HC.out.below hbel)
            replace BOTH := Lib.hid (BOTH.out.below hbel)
            replace X := Lib.hid (X.out.below hbel)
            have Y := Lib.hid hr
            have E2 := Lib.hid hev
            clear hr hev hbel
            clear cx0 cx1
            have cx0 := BX.out.c0
            have cx1 := BX.out.c1
            have hcl := enc_R HC.out BOTH.out (by omega) HLLX.out
            go_wp2_with fail
            refine hcl.mono ?_
            clear hcl
            rintro e w9_ ⟨D3, s3, d3, ev3, rfl, hev, hr, hbel⟩
            replace HB := Lib.hid (bthen HB.out hbel)
            replace RA := Lib.hid (RA.out.below hbel)
            replace RB_ := Lib.hid (RB_.out.below hbel)
            replace BX := Lib.hid (BX.out.below hbel)
            replace HC := Lib.hid (HC.out.below hbel)
            replace BOTH := Lib.hid (BOTH.out.below hbel)
            replace X := Lib.hid (X.out.below hbel)
            replace Y := Lib.hid (Y.out.below hbel)
            have Z := Lib.hid hr
            have E3 := Lib.hid hev
            clear hr hev hbel
            clear cx0 cx1
            have cx0 := BX.out.c0
            have cx1 := BX.out.c1
            have hAB : Alike a ↔ Alike b := alike_iff (by rw [← HQ.out, ← HQ2.out]) (fun t ht => HALL.out t (by have := HQ.out; omega))
            have hAX : Alike a ↔ Alike (XR a b q) := alike_iff (by rw [← HQ.out, XR_length]) (fun t ht => by rw [XR_row a b (by have := HQ.out; omega)]; simp)
            by_cases hE : a.length = k ∧ Alike a
            rotate_left
            · skip
              have e1 := E1.out
              have e2 := E2.out
              have e3 := E3.out
              rw [docEnc_no hE] at e1
              rw [docEnc_no (fun h => hE ⟨by rw [← HQ.out, HQ2.out]; exact h.1, hAB.2 h.2⟩)] at e2
              rw [docEnc_no (fun h => hE ⟨by rw [← HQ.out]; have := h.1; rw [XR_length] at this; exact this, hAX.2 h.2⟩)] at e3
              obtain rfl : ev1 = 14 := e1
              obtain rfl : ev2 = 14 := e2
              obtain rfl : ev3 = 14 := e3
              clear hE hAB hAX
              go_wp2_with fail
              go_ret
              exact ⟨rfl, HB.out⟩
            have e1 := E1.out
            have e2 := E2.out
            have e3 := E3.out
            have x1 := X.out
            have x2 := Y.out
            have x3 := Z.out
            obtain ⟨hE1, hE2⟩ := hE
            obtain rfl : k = q := by rw [← hE1, ← HQ.out]
            rw [docEnc_ok hE1 hE2] at e1 x1
            rw [docEnc_ok (by rw [← HQ2.out]) (hAB.1 hE2)] at e2 x2
            rw [docEnc_ok (XR_length a b k) (hAX.1 hE2)] at e3 x3
            obtain rfl : ev1 = 0 := e1
            obtain rfl : ev2 = 0 := e2
            obtain rfl : ev3 = 0 := e3
            obtain rfl : n = s1 := by have := x1.len; rw [encB_length] at this; exact this
            obtain rfl : n = s2 := by have := x2.len; rw [encB_length] at this; exact this
            obtain rfl : n = s3 := by have := x3.len; rw [encB_length] at this; exact this
            have X1 := Lib.hid x1
            have X2 := Lib.hid x2
            have X3 := Lib.hid x3
            obtain ⟨L, hL⟩ : ∃ L, L = (a.headD []).length := ⟨_, rfl⟩
            have hL60 : L ≤ 60 := by rw [hL, ← PRsEncode.gr_zero]; exact HLA.out 0 (by omega)
            have hLb : (b.headD []).length = L := by rw [hL, ← PRsEncode.gr_zero, ← PRsEncode.gr_zero, HALL.out 0 (by omega)]
            have hLx : ((XR a b k).headD []).length = L := by rw [← PRsEncode.gr_zero, XR_row a b (by omega), hL, ← PRsEncode.gr_zero]; simp
            have HROW : Hid (∀ i, i < n → (gr (encB k n a) i).length = L ∧ (gr (encB k n b) i).length = L ∧ (gr (encB k n (XR a b k)) i).length = L) := Lib.hid (fun i hi => ⟨by rw [encB_row _ hi]; unfold sumB; rw [List.length_map, List.length_range, hL], by rw [encB_row _ hi]; unfold sumB; rw [List.length_map, List.length_range]; exact hLb, by rw [encB_row _ hi]; unfold sumB; rw [List.length_map, List.length_range]; exact hLx⟩)
            have HVAL : Hid (∀ i, i < n → ∀ j, j < L → gb (gr (encB k n (XR a b k)) i) j = gb (gr (encB k n a) i) j ^^^ gb (gr (encB k n b) i) j) := Lib.hid (fun i hi j hj => by
              rw [encB_row _ hi, encB_row _ hi, encB_row _ hi]
              exact sum_lin (codeM k i) hE1 (by rw [← HQ2.out]) hk1 hE2 (hAB.1 hE2) hL.symm hLb hj)
            have tn : ((n : Int) == nb) = true := by rw [HNB.out]; simp
            clear x1 x2 x3 X Y Z E1 E2 E3 hE1 hE2 hAB hAX hL hLb hLx
            go_wp2_with fail
            go_loopw [143] (fun x wr => ∃ i : Nat, i ≤ n ∧ x = .int .i64 i ∧ Below w9_.heap.size w9_ wr) (fun x _ => n - (intOf x).toNat)
            case atStart => exact ⟨0, by omega, rfl, Below.refl _ _⟩
            case round =>
              obtain ⟨i, hi, rfl, hbl⟩ := hrel
              by_cases hin : i < n
              · skip
                rename World => wo
                obtain ⟨p1, P1, c1, e1, hc1, hr1⟩ := (X1.out.below hbl).row (k := i) hin
                subst e1
                obtain ⟨p2, P2, c2, e2, hc2, hr2⟩ := (X2.out.below hbl).row (k := i) hin
                subst e2
                obtain ⟨p3, P3, c3, e3, hc3, hr3⟩ := (X3.out.below hbl).row (k := i) hin
                subst e3
                rw [(HROW.out i hin).1] at hc1 hr1
                rw [(HROW.out i hin).2.1] at hc2 hr2
                rw [(HROW.out i hin).2.2] at hc3 hr3
                have i0 : (0 : Int) ≤ (i : Int) := by omega
                have i1 : (i : Int) < (n : Int) := by omega
                have R1 := Lib.hid hr1
                have R2 := Lib.hid hr2
                have R3 := Lib.hid hr3
                have HBL := Lib.hid hbl
                have HV2 := Lib.hid (HVAL.out i hin)
                clear hr1 hr2 hr3 hbl
                go_wp2_with fail
                go_loopw [151] (fun x wj => ∃ j : Nat, j ≤ L ∧ x = .int .i64 j ∧ Below wo.heap.size wo wj) (fun x _ => L - (intOf x).toNat)
                case atStart => exact ⟨0, by omega, rfl, Below.refl _ _⟩
                case round =>
                  obtain ⟨j, hj, rfl, hbj⟩ := hrel
                  by_cases hjl : j < L
                  · skip
                    obtain ⟨o1, e1, hb1⟩ := R1.out.byte (k := j) hjl
                    subst e1
                    obtain ⟨o2, e2, hb2⟩ := R2.out.byte (k := j) hjl
                    subst e2
                    obtain ⟨o3, e3, hb3⟩ := R3.out.byte (k := j) hjl
                    subst e3
                    have hval := HV2.out j hjl
                    obtain ⟨x, hx⟩ : ∃ x, x = gb (gr (encB k n a) i) j := ⟨_, rfl⟩
                    obtain ⟨y, hy⟩ : ∃ y, y = gb (gr (encB k n b) i) j := ⟨_, rfl⟩
                    obtain ⟨z, hz⟩ : ∃ z, z = gb (gr (encB k n (XR a b k)) i) j := ⟨_, rfl⟩
                    rw [← hx] at hb1
                    rw [← hy] at hb2
                    rw [← hz] at hb3
                    rw [← hx, ← hy, ← hz] at hval
                    have hxx : bits .xor .u8 (x.toNat : Int) (y.toNat : Int) = (z.toNat : Int) := by rw [hval]; exact u8_xor_all x y
                    have tz : ((z.toNat : Int) != (z.toNat : Int)) = false := by simp
                    have bj : Below wr.heap.size wr wr.drew := ⟨rfl, rfl, rfl, Nat.le_refl _, fun _ _ => rfl⟩
                    have hbw := bthen hbj bj
                    have f0 := pw_cell_below hbw hc3
                    have f1 := pw_cell_below hbw hb3
                    have f2 := pw_cell_below hbw hc1
                    have f3 := pw_cell_below hbw hb1
                    have f4 := pw_cell_below hbw hc2
                    have f5 := pw_cell_below hbw hb2
                    have j0 : (0 : Int) ≤ (j : Int) := by omega
                    have j1 : (j : Int) < (L : Int) := by omega
                    have HBW := Lib.hid hbw
                    clear hval hx hy hz hb1 hb2 hb3 hbj hbw
                    go_wp2
                    refine start_ (n := 23) (S := fun w' => w'.cell? (p3.add i) = some (.slice (some o3) L c3) ∧ w'.cell? (o3.add j) = some (.int .u8 (z.toNat : Int)) ∧ w'.cell? (p1.add i) = some (.slice (some o1) L c1) ∧ w'.cell? (o1.add j) = some (.int .u8 (x.toNat : Int)) ∧ w'.cell? (p2.add i) = some (.slice (some o2) L c2) ∧ w'.cell? (o2.add j) = some (.int .u8 (y.toNat : Int))) (ds := []) #[false, false, false, false, false, false, false, false, false, false, false, false, false, false, false, false, false, false, false, false, false, false, false] (by kernel_rfl) rfl rfl ⟨f0, f1, f2, f3, f4, f5⟩ (fun hHeld => ?_)
                    refine pure_ (i := 0) (N := some 154) (v := ?_) (a' := ?_) #[true, false, false, false, false, false, false, false, false, false, false, false, false, false, false, false, false, false, false, false, false, false, false] rfl rfl (by kernel_rfl) (fun _ _ _ h => h) (Or.inl ⟨by rfl, ?_⟩) ?_ ?_
                    rotate_left
                    · intro w'
                      go_simp
                      with_reducible rfl
                    rotate_left
                    · simp only [Act.put, List.setIfInBounds_toArray, List.set_cons_zero, List.set_cons_succ, i64_w, i32_w]
                      rfl
                    refine pure_ (i := 1) (N := some 155) (v := ?_) (a' := ?_) #[true, true, false, false, false, false, false, false, false, false, false, false, false, false, false, false, false, false, false, false, false, false, false] rfl rfl (by kernel_rfl) (fun _ _ _ h => h) (Or.inl ⟨by rfl, ?_⟩) ?_ ?_
                    rotate_left
                    · intro w'
                      go_simp
                      with_reducible rfl
                    rotate_left
                    · simp only [Act.put, List.setIfInBounds_toArray, List.set_cons_zero, List.set_cons_succ, i64_w, i32_w]
                      rfl
                    refine pure_ (i := 2) (N := some 156) (v := ?_) (a' := ?_) #[true, true, true, false, false, false, false, false, false, false, false, false, false, false, false, false, false, false, false, false, false, false, false] rfl rfl (by kernel_rfl) (fun _ _ _ h => h) (Or.inl ⟨by rfl, ?_⟩) ?_ ?_
                    rotate_left
                    · intro w'
                      go_simp
                      with_reducible rfl
                    rotate_left
                    · simp only [Act.put, List.setIfInBounds_toArray, List.set_cons_zero, List.set_cons_succ, i64_w, i32_w]
                      rfl
                    refine pure_ (i := 4) (N := some 158) (v := ?_) (a' := ?_) #[true, true, true, false, true, false, false, false, false, false, false, false, false, false, false, false, false, false, false, false, false, false, false] rfl rfl (by kernel_rfl) (fun _ _ _ h => h) (Or.inl ⟨by rfl, ?_⟩) ?_ ?_
                    rotate_left
                    · intro w'
                      go_simp
                      with_reducible rfl
                    rotate_left
                    · simp only [Act.put, List.setIfInBounds_toArray, List.set_cons_zero, List.set_cons_succ, i64_w, i32_w]
                      rfl
                    refine pure_ (i := 7) (N := some 161) (v := ?_) (a' := ?_) #[true, true, true, false, true, false, false, true, false, false, false, false, false, false, false, false, false, false, false, false, false, false, false] rfl rfl (by kernel_rfl) (fun _ _ _ h => h) (Or.inl ⟨by rfl, ?_⟩) ?_ ?_
                    rotate_left
                    · intro w'
                      go_simp
                      with_reducible rfl
                    rotate_left
                    · simp only [Act.put, List.setIfInBounds_toArray, List.set_cons_zero, List.set_cons_succ, i64_w, i32_w]
                      rfl
                    refine pure_ (i := 8) (N := some 162) (v := ?_) (a' := ?_) #[true, true, true, false, true, false, false, true, true, false, false, false, false, false, false, false, false, false, false, false, false, false, false] rfl rfl (by kernel_rfl) (fun _ _ _ h => h) (Or.inl ⟨by rfl, ?_⟩) ?_ ?_
                    rotate_left
                    · intro w'
                      go_simp
                      with_reducible rfl
                    rotate_left
                    · simp only [Act.put, List.setIfInBounds_toArray, List.set_cons_zero, List.set_cons_succ, i64_w, i32_w]
                      rfl
                    refine pure_ (i := 9) (N := some 163) (v := ?_) (a' := ?_) #[true, true, true, false, true, false, false, true, true, true, false, false, false, false, false, false, false, false, false, false, false, false, false] rfl rfl (by kernel_rfl) (fun _ _ _ h => h) (Or.inl ⟨by rfl, ?_⟩) ?_ ?_
                    rotate_left
                    · intro w'
                      go_simp
                      with_reducible rfl
                    rotate_left
                    · simp only [Act.put, List.setIfInBounds_toArray, List.set_cons_zero, List.set_cons_succ, i64_w, i32_w]
                      rfl
                    refine pure_ (i := 11) (N := some 165) (v := ?_) (a' := ?_) #[true, true, true, false, true, false, false, true, true, true, false, true, false, false, false, false, false, false, false, false, false, false, false] rfl rfl (by kernel_rfl) (fun _ _ _ h => h) (Or.inl ⟨by rfl, ?_⟩) ?_ ?_
                    rotate_left
                    · intro w'
                      go_simp
                      with_reducible rfl
                    rotate_left
                    · simp only [Act.put, List.setIfInBounds_toArray, List.set_cons_zero, List.set_cons_succ, i64_w, i32_w]
                      rfl
                    refine pure_ (i := 14) (N := some 168) (v := ?_) (a' := ?_) #[true, true, true, false, true, false, false, true, true, true, false, true, false, false, true, false, false, false, false, false, false, false, false] rfl rfl (by kernel_rfl) (fun _ _ _ h => h) (Or.inl ⟨by rfl, ?_⟩) ?_ ?_
                    rotate_left
                    · intro w'
                      go_simp
                      with_reducible rfl
                    rotate_left
                    · simp only [Act.put, List.setIfInBounds_toArray, List.set_cons_zero, List.set_cons_succ, i64_w, i32_w]
                      rfl
                    refine pure_ (i := 15) (N := some 169) (v := ?_) (a' := ?_) #[true, true, true, false, true, false, false, true, true, true, false, true, false, false, true, true, false, false, false, false, false, false, false] rfl rfl (by kernel_rfl) (fun _ _ _ h => h) (Or.inl ⟨by rfl, ?_⟩) ?_ ?_
                    rotate_left
                    · intro w'
                      go_simp
                      with_reducible rfl
                    rotate_left
                    · simp only [Act.put, List.setIfInBounds_toArray, List.set_cons_zero, List.set_cons_succ, i64_w, i32_w]
                      rfl
                    refine pure_ (i := 16) (N := some 170) (v := ?_) (a' := ?_) #[true, true, true, false, true, false, false, true, true, true, false, true, false, false, true, true, true, false, false, false, false, false, false] rfl rfl (by kernel_rfl) (fun _ _ _ h => h) (Or.inl ⟨by rfl, ?_⟩) ?_ ?_
                    rotate_left
                    · intro w'
                      go_simp
                      with_reducible rfl
                    rotate_left
                    · simp only [Act.put, List.setIfInBounds_toArray, List.set_cons_zero, List.set_cons_succ, i64_w, i32_w]
                      rfl
                    refine pure_ (i := 18) (N := some 172) (v := ?_) (a' := ?_) #[true, true, true, false, true, false, false, true, true, true, false, true, false, false, true, true, true, false, true, false, false, false, false] rfl rfl (by kernel_rfl) (fun _ _ _ h => h) (Or.inl ⟨by rfl, ?_⟩) ?_ ?_
                    rotate_left
                    · intro w'
                      go_simp
                      with_reducible rfl
                    rotate_left
                    · simp only [Act.put, List.setIfInBounds_toArray, List.set_cons_zero, List.set_cons_succ, i64_w, i32_w]
                      rfl
                    refine take_ (i := 3) (N := some 157) (v := ?_) (a' := ?_) #[true, true, true, true, true, false, false, true, true, true, false, true, false, false, true, true, true, false, true, false, false, false, false] rfl rfl (by kernel_rfl) (fun _ _ _ h => h) (Or.inl ⟨by rfl, ?_⟩) hHeld ?_ ?_
                    rotate_left
                    · rintro w' ⟨s0, s1, s2, s3, s4, s5⟩
                      go_simp
                      with_reducible rfl
                    rotate_left
                    · simp only [Act.put, List.setIfInBounds_toArray, List.set_cons_zero, List.set_cons_succ, i64_w, i32_w]
                      rfl
                    refine pure_ (i := 5) (N := some 159) (v := ?_) (a' := ?_) #[true, true, true, true, true, true, false, true, true, true, false, true, false, false, true, true, true, false, true, false, false, false, false] rfl rfl (by kernel_rfl) (fun _ _ _ h => h) (Or.inl ⟨by rfl, ?_⟩) ?_ ?_
                    rotate_left
                    · intro w'
                      go_simp
                      with_reducible rfl
                    rotate_left
                    · simp only [Act.put, List.setIfInBounds_toArray, List.set_cons_zero, List.set_cons_succ, i64_w, i32_w]
                      rfl
                    refine take_ (i := 6) (N := some 160) (v := ?_) (a' := ?_) #[true, true, true, true, true, true, true, true, true, true, false, true, false, false, true, true, true, false, true, false, false, false, false] rfl rfl (by kernel_rfl) (fun _ _ _ h => h) (Or.inl ⟨by rfl, ?_⟩) hHeld ?_ ?_
                    rotate_left
                    · rintro w' ⟨s0, s1, s2, s3, s4, s5⟩
                      go_simp
                      with_reducible rfl
                    rotate_left
                    · simp only [Act.put, List.setIfInBounds_toArray, List.set_cons_zero, List.set_cons_succ, i64_w, i32_w]
                      rfl
                    refine take_ (i := 10) (N := some 164) (v := ?_) (a' := ?_) #[true, true, true, true, true, true, true, true, true, true, true, true, false, false, true, true, true, false, true, false, false, false, false] rfl rfl (by kernel_rfl) (fun _ _ _ h => h) (Or.inl ⟨by rfl, ?_⟩) hHeld ?_ ?_
                    rotate_left
                    · rintro w' ⟨s0, s1, s2, s3, s4, s5⟩
                      go_simp
                      with_reducible rfl
                    rotate_left
                    · simp only [Act.put, List.setIfInBounds_toArray, List.set_cons_zero, List.set_cons_succ, i64_w, i32_w]
                      rfl
                    refine pure_ (i := 12) (N := some 166) (v := ?_) (a' := ?_) #[true, true, true, true, true, true, true, true, true, true, true, true, true, false, true, true, true, false, true, false, false, false, false] rfl rfl (by kernel_rfl) (fun _ _ _ h => h) (Or.inl ⟨by rfl, ?_⟩) ?_ ?_
                    rotate_left
                    · intro w'
                      go_simp
                      with_reducible rfl
                    rotate_left
                    · simp only [Act.put, List.setIfInBounds_toArray, List.set_cons_zero, List.set_cons_succ, i64_w, i32_w]
                      rfl
                    refine take_ (i := 13) (N := some 167) (v := ?_) (a' := ?_) #[true, true, true, true, true, true, true, true, true, true, true, true, true, true, true, true, true, false, true, false, false, false, false] rfl rfl (by kernel_rfl) (fun _ _ _ h => h) (Or.inl ⟨by rfl, ?_⟩) hHeld ?_ ?_
                    rotate_left
                    · rintro w' ⟨s0, s1, s2, s3, s4, s5⟩
                      go_simp
                      with_reducible rfl
                    rotate_left
                    · simp only [Act.put, List.setIfInBounds_toArray, List.set_cons_zero, List.set_cons_succ, i64_w, i32_w]
                      rfl
                    refine take_ (i := 17) (N := some 171) (v := ?_) (a' := ?_) #[true, true, true, true, true, true, true, true, true, true, true, true, true, true, true, true, true, true, true, false, false, false, false] rfl rfl (by kernel_rfl) (fun _ _ _ h => h) (Or.inl ⟨by rfl, ?_⟩) hHeld ?_ ?_
                    rotate_left
                    · rintro w' ⟨s0, s1, s2, s3, s4, s5⟩
                      go_simp
                      with_reducible rfl
                    rotate_left
                    · simp only [Act.put, List.setIfInBounds_toArray, List.set_cons_zero, List.set_cons_succ, i64_w, i32_w]
                      rfl
                    refine pure_ (i := 19) (N := some 173) (v := ?_) (a' := ?_) #[true, true, true, true, true, true, true, true, true, true, true, true, true, true, true, true, true, true, true, true, false, false, false] rfl rfl (by kernel_rfl) (fun _ _ _ h => h) (Or.inl ⟨by rfl, ?_⟩) ?_ ?_
                    rotate_left
                    · intro w'
                      go_simp
                      with_reducible rfl
                    rotate_left
                    · simp only [Act.put, List.setIfInBounds_toArray, List.set_cons_zero, List.set_cons_succ, i64_w, i32_w]
                      rfl
                    refine take_ (i := 20) (N := some 174) (v := ?_) (a' := ?_) #[true, true, true, true, true, true, true, true, true, true, true, true, true, true, true, true, true, true, true, true, true, false, false] rfl rfl (by kernel_rfl) (fun _ _ _ h => h) (Or.inl ⟨by rfl, ?_⟩) hHeld ?_ ?_
                    rotate_left
                    · rintro w' ⟨s0, s1, s2, s3, s4, s5⟩
                      go_simp
                      with_reducible rfl
                    rotate_left
                    · simp only [Act.put, List.setIfInBounds_toArray, List.set_cons_zero, List.set_cons_succ, i64_w, i32_w]
                      rfl
                    refine pure_ (i := 21) (N := some 175) (v := ?_) (a' := ?_) #[true, true, true, true, true, true, true, true, true, true, true, true, true, true, true, true, true, true, true, true, true, true, false] rfl rfl (by kernel_rfl) (fun _ _ _ h => h) (Or.inl ⟨by rfl, ?_⟩) ?_ ?_
                    rotate_left
                    · intro w'
                      go_simp
                      with_reducible rfl
                    rotate_left
                    · simp only [Act.put, List.setIfInBounds_toArray, List.set_cons_zero, List.set_cons_succ, i64_w, i32_w]
                      rfl
                    refine pure_ (i := 22) (N := some 176) (v := ?_) (a' := ?_) #[true, true, true, true, true, true, true, true, true, true, true, true, true, true, true, true, true, true, true, true, true, true, true] rfl rfl (by kernel_rfl) (fun _ _ _ h => h) (Or.inl ⟨by rfl, ?_⟩) ?_ ?_
                    rotate_left
                    · intro w'
                      go_simp
                      with_reducible rfl
                    rotate_left
                    · simp only [Act.put, List.setIfInBounds_toArray, List.set_cons_zero, List.set_cons_succ, i64_w, i32_w]
                      rfl
                    refine done_ (by kernel_rfl) ?_
                    go_wp2_with fail
                    exact ⟨⟨j + 1, by omega, by go_num, HBW.out⟩, by simp [intOf]; omega⟩
                  obtain rfl : L = j := by omega
                  have HBJ := Lib.hid (bthen HBL.out hbj)
                  clear hbj
                  go_wp2_with fail
                  exact ⟨⟨i + 1, by omega, by go_num, HBJ.out⟩, by simp [intOf]; omega⟩
              obtain rfl : n = i := by omega
              have bx := BX.out.below hbl
              clear cx0 cx1
              have cx0 := bx.c0
              have cx1 := bx.c1
              have HBF := Lib.hid (bthen HB.out hbl)
              clear hbl bx
              go_wp2_with fail
              go_ret
              exact ⟨rfl, HBF.out⟩
  · skip
    have HR := Lib.hid hR
    clear hR
    go_enter Try.func19, Try.ntmps19
    go_wp2_with fail
    rw [← HW0.out, ← HGB.out]
    clear HW0 HGB
    have hcl := wakes09 w0_
    refine hcl.mono ?_
    clear hcl
    rintro e w2_ ⟨rfl, hbel⟩
    replace HB := Lib.hid (bthen HB.out hbel)
    replace RA := Lib.hid (RA.out.below hbel)
    replace RB_ := Lib.hid (RB_.out.below hbel)
    replace BX := Lib.hid (BX.out.below hbel)
    clear hbel
    have cx0 := BX.out.c0
    have cx1 := BX.out.c1
    have hcl := code_bad ka nb HR.out w2_
    go_wp2_with fail
    refine hcl.mono ?_
    clear hcl
    rintro e w3_ ⟨rfl, hbel⟩
    replace HB := Lib.hid (bthen HB.out hbel)
    replace RA := Lib.hid (RA.out.below hbel)
    replace RB_ := Lib.hid (RB_.out.below hbel)
    replace BX := Lib.hid (BX.out.below hbel)
    clear hbel
    clear cx0 cx1
    have cx0 := BX.out.c0
    have cx1 := BX.out.c1
    have hrr := right9 ka nb w3_
    rw [decide_eq_false HR.out] at hrr
    have hcl := hrr
    go_wp2_with fail
    refine hcl.mono ?_
    clear hcl
    rintro e w4_ ⟨rfl, hbel⟩
    replace HB := Lib.hid (bthen HB.out hbel)
    replace RA := Lib.hid (RA.out.below hbel)
    replace RB_ := Lib.hid (RB_.out.below hbel)
    replace BX := Lib.hid (BX.out.below hbel)
    clear hbel
    clear hrr
    clear cx0 cx1
    have cx0 := BX.out.c0
    have cx1 := BX.out.c1
    go_wp2_with fail
    go_ret
    exact ⟨rfl, HB.out⟩
end Go.Proofs.Ytoijjlpkoniipaa
