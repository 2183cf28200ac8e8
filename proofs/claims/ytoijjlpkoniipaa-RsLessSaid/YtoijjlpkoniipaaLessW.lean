/- The law RsLess. -/
import Derived.Test.YtoijjlpkoniipaaLessPlain
set_option linter.unusedVariables false
set_option linter.unusedSimpArgs false
namespace Go.Proofs.Ytoijjlpkoniipaa
open Go.RowKit Go.Proofs.YtoijjlpkoniipaaW.PrintWords Go.Proofs.YtoijjlpkoniipaaW.PrintLast Gf Lin Go.ChangeShapes Go.WideShapes
theorem ints1 {w : World} {g : Nat} {a : Int} (h : w.heap[g]? = some (.cells #[.int .i64 a] 3)) : RI w (some ⟨g, 0, none⟩) 1 1 [a] :=
  ⟨Nat.le_refl _, C_ints (A := some ⟨g, 0, none⟩) (zs := [a]) (by simp) (fun _ => ⟨_, rfl, fun j hj => by
    have hj0 : j = 0 := by simpa using hj
    subst hj0
    rw [add_at, cell_of_row _ _ _ _ _ _ h]; rfl⟩)⟩
theorem rows1 {w : World} {g : Nat} {A : Option Addr} {p c : Nat} {r : List UInt8} (h : w.heap[g]? = some (.cells #[.slice A p c] 35)) (h1 : RS w A p c r) : RD w (some ⟨g, 0, none⟩) 1 1 [r] := by
  have e1 := h1.len
  subst e1
  exact ⟨Nat.le_refl _, CC_of_cells (A := some ⟨g, 0, none⟩) [r] (by simp) (fun _ => ⟨_, rfl, fun j hj => by
    have hj0 : j = 0 := by simpa using hj
    subst hj0
    exact ⟨A, c, by rw [add_at, cell_of_row _ _ _ _ _ _ h]; rfl, h1.le, h1.rd⟩⟩)⟩
theorem append_none_int (w : World) (z : Int) (ty : TypeId) : (Builtin.append_ #[80, 80] ty #[.slice (some ⟨w.heap.size, 0, none⟩) 1 1, .slice none 0 0]).run Try.prog (w.alloc (.cells #[.int .i64 z] 3)) = .ok (.slice (some ⟨w.heap.size, 0, none⟩) 1 1) (w.alloc (.cells #[.int .i64 z] 3)) := by
  obtain ⟨i, hi, hinf⟩ := Option.map_eq_some_iff.1 info3
  simp only [Prod.mk.injEq] at hinf
  exact run_append_owned_none (P := Try.prog) _ w.heap.size 80 ty 3 i 1 Try.underlying80 hi _ 1 _ (World.ownsRow_lit (e := 3) (size := 1) w #[.int .i64 z] 1 (Nat.le_refl _) (by unfold maxLen; omega) rfl)
theorem append_none_row (w : World) (T : Option Addr) (lt ct : Nat) (ty : TypeId) : (Builtin.append_ #[36, 36] ty #[.slice (some ⟨w.heap.size, 0, none⟩) 1 1, .slice none 0 0]).run Try.prog (w.alloc (.cells #[.slice T lt ct] 35)) = .ok (.slice (some ⟨w.heap.size, 0, none⟩) 1 1) (w.alloc (.cells #[.slice T lt ct] 35)) := by
  obtain ⟨i, hi, hinf⟩ := Option.map_eq_some_iff.1 info35
  simp only [Prod.mk.injEq] at hinf
  exact run_append_owned_none (P := Try.prog) _ w.heap.size 36 ty 35 i 1 Try.underlying36 hi _ 1 _ (World.ownsRow_lit (e := 35) (size := 1) w #[.slice T lt ct] 1 (Nat.le_refl _) (by unfold maxLen; omega) rfl)
set_option maxHeartbeats 4000000 in
set_option maxRecDepth 100000 in
theorem RsLess_walk (w : World) (ka nb : Int) (_k0 : -9223372036854775808 ≤ ka) (_k1 : ka ≤ 9223372036854775807) (_n0 : -9223372036854775808 ≤ nb) (_n1 : nb ≤ 9223372036854775807)
    (A : Option Addr) (m : List (List UInt8)) (ca : Nat) (hca : m.length ≤ ca) (hra : KBB.C w A m.length (bss m)) (X : Option Addr) (xs : List UInt8) (cx : Nat) (hcx : xs.length ≤ cx) (hrx : KB.C w X xs.length (bs xs)) :
    Calls Try.prog 18 #[.agg #[.int .i64 ka, .int .i64 nb], .slice A m.length ca, .slice X xs.length cx] w fun e w' => e = .returned (.bool true) ∧ Below w.heap.size w w' := by
  have RA := Lib.hid (RD.mk hca hra)
  have RX := Lib.hid (RS.mk hcx hrx)
  obtain ⟨q, hq_⟩ : ∃ q, q = m.length := ⟨_, rfl⟩
  obtain ⟨lx, hlx_⟩ : ∃ lx, lx = xs.length := ⟨_, rfl⟩
  rw [← hq_] at RA ⊢
  rw [← hlx_] at RX ⊢
  have HQ := Lib.hid hq_
  have HLX := Lib.hid hlx_
  clear hca hra hcx hrx hq_ hlx_
  obtain ⟨w0_, hw0⟩ : ∃ w0_, w0_ = w.alloc (.cells #[.int .i64 ka, .int .i64 nb] 49) := ⟨_, rfl⟩
  obtain ⟨gb_, hgb⟩ : ∃ gb_, gb_ = w.heap.size := ⟨_, rfl⟩
  have BX : Hid (Bx w0_ gb_ ka nb) := Lib.hid (by rw [hw0, hgb]; exact Bx.new w ka nb)
  have hbel : Below w.heap.size w w0_ := by rw [hw0]; exact Below.alloc1 _ _
  have HB := Lib.hid hbel
  replace RA := Lib.hid (RA.out.below hbel)
  replace RX := Lib.hid (RX.out.below hbel)
  have HW0 := Lib.hid hw0
  have HGB := Lib.hid hgb
  clear hbel hw0 hgb
  by_cases hR : 1 ≤ ka ∧ ka ≤ nb ∧ nb ≤ 255
  · by_cases hbig : 8 < ka ∨ 24 < nb
    · skip
      have HR := Lib.hid hR
      have HBIG := Lib.hid hbig
      clear hR hbig
      go_enter Try.func18, Try.ntmps18
      go_wp2_with fail
      rw [← HW0.out, ← HGB.out]
      clear HW0 HGB
      have hcl := wakes09 w0_
      refine hcl.mono ?_
      clear hcl
      rintro e w2_ ⟨rfl, hbel⟩
      replace HB := Lib.hid (bthen HB.out hbel)
      replace RA := Lib.hid (RA.out.below hbel)
      replace RX := Lib.hid (RX.out.below hbel)
      replace BX := Lib.hid (BX.out.below hbel)
      clear hbel
      have cx0 := BX.out.c0
      have cx1 := BX.out.c1
      have hcl := code_big ka nb HR.out HBIG.out w2_
      go_wp2_with fail
      refine hcl.mono ?_
      clear hcl
      rintro e w3_ ⟨rfl, hbel⟩
      replace HB := Lib.hid (bthen HB.out hbel)
      replace RA := Lib.hid (RA.out.below hbel)
      replace RX := Lib.hid (RX.out.below hbel)
      replace BX := Lib.hid (BX.out.below hbel)
      clear hbel
      clear cx0 cx1
      have cx0 := BX.out.c0
      have cx1 := BX.out.c1
      go_wp2_with fail
      go_ret
      exact ⟨rfl, HB.out⟩
    · skip
      obtain ⟨k, rfl⟩ : ∃ k : Nat, ka = (k : Int) := ⟨ka.toNat, by omega⟩
      obtain ⟨n, rfl⟩ : ∃ n : Nat, nb = (n : Int) := ⟨nb.toNat, by omega⟩
      have hk1 : 1 ≤ k := by omega
      have hkn : k ≤ n := by omega
      have h8 : k ≤ 8 := by omega
      have h24 : n ≤ 24 := by omega
      have hn2 : n ≤ 255 := by omega
      have HR := Lib.hid hR
      clear hR hbig
      go_enter Try.func18, Try.ntmps18
      go_wp2_with fail
      rw [← HW0.out, ← HGB.out]
      clear HW0 HGB
      have hcl := wakes09 w0_
      refine hcl.mono ?_
      clear hcl
      rintro e w2_ ⟨rfl, hbel⟩
      replace HB := Lib.hid (bthen HB.out hbel)
      replace RA := Lib.hid (RA.out.below hbel)
      replace RX := Lib.hid (RX.out.below hbel)
      replace BX := Lib.hid (BX.out.below hbel)
      clear hbel
      have cx0 := BX.out.c0
      have cx1 := BX.out.c1
      have hcl := code_ok k n hk1 hkn h8 h24 (k : Int) (n : Int) rfl rfl w2_
      go_wp2_with fail
      refine hcl.mono ?_
      clear hcl
      rintro e w3_ ⟨gc, gt, Ac, capc, rfl, hcd, hbel⟩
      replace HB := Lib.hid (bthen HB.out hbel)
      replace RA := Lib.hid (RA.out.below hbel)
      replace RX := Lib.hid (RX.out.below hbel)
      replace BX := Lib.hid (BX.out.below hbel)
      have HC := Lib.hid hcd
      clear hcd hbel
      clear cx0 cx1
      have cx0 := BX.out.c0
      have cx1 := BX.out.c1
      have hrr := right9 (k : Int) (n : Int) w3_
      rw [decide_eq_true HR.out] at hrr
      have hcl := hrr
      go_wp2_with fail
      refine hcl.mono ?_
      clear hcl
      rintro e w4_ ⟨rfl, hbel⟩
      replace HB := Lib.hid (bthen HB.out hbel)
      replace RA := Lib.hid (RA.out.below hbel)
      replace RX := Lib.hid (RX.out.below hbel)
      replace BX := Lib.hid (BX.out.below hbel)
      replace HC := Lib.hid (HC.out.below hbel)
      clear hbel
      clear hrr
      clear cx0 cx1
      have cx0 := BX.out.c0
      have cx1 := BX.out.c1
      have hcl := long_R RA.out 10 60
      go_wp2_with fail
      refine hcl.mono ?_
      clear hcl
      rintro e w5_ ⟨b_, rfl, hbe, hbel⟩
      replace HB := Lib.hid (bthen HB.out hbel)
      replace RA := Lib.hid (RA.out.below hbel)
      replace RX := Lib.hid (RX.out.below hbel)
      replace BX := Lib.hid (BX.out.below hbel)
      replace HC := Lib.hid (HC.out.below hbel)
      clear hbel
      clear cx0 cx1
      have cx0 := BX.out.c0
      have cx1 := BX.out.c1
      cases hl : PRsEncode.isLong m 10 60 with
      | true =>
        rw [hl] at hbe
        subst hbe
        clear hl
        go_wp2_with fail
        go_ret
        exact ⟨rfl, HB.out⟩
      | false =>
        rw [hl] at hbe
        subst hbe
        have LRA := Lib.hid (PRsEncode.isLong_false hl)
        clear hl
        by_cases h2k : n < 2 * k
        · skip
          have t1 : decide ((n : Int) < 2 * (k : Int)) = true := decide_eq_true (by omega)
          have t2 : decide (n < 2 * k) = true := decide_eq_true (by omega)
          clear h2k
          go_wp2_with fail
          go_ret
          exact ⟨rfl, HB.out⟩
        have t1 : decide ((n : Int) < 2 * (k : Int)) = false := decide_eq_false (by omega)
        have t2 : decide (n < 2 * k) = false := decide_eq_false (by omega)
        have h2k' : 2 * k ≤ n := by omega
        clear h2k
        by_cases hq0 : q < 1
        · skip
          have t3 : decide ((q : Int) < 1) = true := decide_eq_true (by omega)
          have t4 : decide (q < 1) = true := decide_eq_true hq0
          obtain rfl : q = 0 := by omega
          clear hq0
          go_wp2_with fail
          go_ret
          exact ⟨rfl, HB.out⟩
        have t3 : decide ((q : Int) < 1) = false := decide_eq_false (by omega)
        have t4 : decide (q < 1) = false := decide_eq_false hq0
        have q0 : (0 : Int) < (q : Int) := by omega
        obtain ⟨ad_, B_, cB_, rfl, hcell, _⟩ := RA.out.row0 (by omega)
        obtain ⟨l0, hl0⟩ : ∃ l0, l0 = (gr m 0).length := ⟨_, rfl⟩
        rw [← hl0] at hcell
        by_cases hlt : lx = l0
        rotate_left
        · skip
          have t5 : ((lx : Int) != (l0 : Int)) = true := by simp; omega
          clear hlt hl0
          go_wp2_with fail
          go_ret
          exact ⟨rfl, HB.out⟩
        have HXT : Hid (xs.length = (gr m 0).length) := Lib.hid (by rw [← hl0, ← hlt]; exact HLX.out.symm)
        have t5 : ((lx : Int) != (l0 : Int)) = false := by rw [hlt]; simp
        have HLL : Hid (∀ r ∈ m, r.length ≤ 1000000) := Lib.hid (fun r hr => by have := LRA.out.2 r hr; omega)
        have hq10 : q ≤ 10 := by have := LRA.out.1; have := HQ.out; omega
        have HLX60 : Hid (lx ≤ 60) := Lib.hid (by rw [hlt, hl0, gr_at (by have := HQ.out; omega)]; exact LRA.out.2 _ (List.getElem_mem _))
        clear hlt hl0
        have hcl := enc_R HC.out RA.out (by omega) HLL.out
        go_wp2_with fail
        refine hcl.mono ?_
        clear hcl
        rintro e w6_ ⟨DE, sE, dE, ev, rfl, hev, hr, hbel⟩
        replace HB := Lib.hid (bthen HB.out hbel)
        replace RA := Lib.hid (RA.out.below hbel)
        replace RX := Lib.hid (RX.out.below hbel)
        replace BX := Lib.hid (BX.out.below hbel)
        replace HC := Lib.hid (HC.out.below hbel)
        have P := Lib.hid hr
        have HEV := Lib.hid hev
        clear hr hev hbel
        clear t1 t2 t3 t4 t5 hcell q0
        clear cx0 cx1
        have cx0 := BX.out.c0
        have cx1 := BX.out.c1
        by_cases hE : m.length = k ∧ Alike m
        rotate_left
        · skip
          have e1 := HEV.out
          rw [docEnc_no hE] at e1
          obtain rfl : ev = 14 := e1
          clear hE
          go_wp2_with fail
          go_ret
          exact ⟨rfl, HB.out⟩
        have e1 := HEV.out
        have e2 := P.out
        rw [docEnc_ok hE.1 hE.2] at e1 e2
        obtain rfl : ev = 0 := e1
        obtain rfl : n = sE := by have := e2.len; rw [encB_length] at this; exact this
        clear P
        have P : Hid (RD _ _ _ _ (encB k n m)) := Lib.hid e2
        have HE := Lib.hid hE
        clear e2 hE HEV
        go_wp2_with fail
        go_loopw [12, 13, 76] (fun v u x wr => ∃ i : Nat, i ≤ k - 1 ∧ x = .int .i64 i ∧ Tw w6_ wr v (upZ k i) u (upP k n m i) ∧ (i = 0 → v = .slice none 0 0 ∧ u = .slice none 0 0)) (fun _ _ x _ => k - 1 - (intOf x).toNat)
        case atStart => exact ⟨0, by omega, rfl, Tw.start _, fun _ => ⟨rfl, rfl⟩⟩
        case round =>
          clear cx0 cx1
          obtain ⟨i, hi, rfl, htw, hnil⟩ := hrel
          obtain ⟨A0, c0, B0, d0, hA, hB_⟩ := htw.form
          rw [upZ_length] at hA
          rw [upP_length] at hB_
          subst hA
          subst hB_
          have bx := BX.out.below htw.bel
          have cx0 := bx.c0
          have cx1 := bx.c1
          by_cases hik : i < k - 1
          · skip
            obtain ⟨A1, c1, w7, hr1, htw1⟩ := htw.stepI ((k : Int) + (i : Int)) (by rw [upZ_length]; omega) 80
            rw [upZ_length] at hr1 htw1
            have ez : upZ k i ++ [(k : Int) + (i : Int)] = upZ k (i + 1) := by rw [upZ_succ]; congr 2
            rw [ez] at htw1
            obtain ⟨pd, R, cR, eP, hpc, hpr⟩ := P.out.row (k := k + i) (by omega)
            subst eP
            have hpc2 := pw_cell_below htw1.bel hpc
            obtain ⟨A2, c2, w8, hr2, htw2⟩ := htw1.stepR hpr (by rw [upP_length]; omega) 36
            rw [upP_length] at hr2 htw2
            rw [← upP_succ] at htw2
            have bx7 := BX.out.below htw1.bel
            have cy0 := bx7.c0
            have qt : ((k : Int) + (i : Int)).toNat = k + i := by omega
            have p0 : (0 : Int) ≤ (k : Int) + (i : Int) := by omega
            have p1 : (k : Int) + (i : Int) < (n : Int) := by omega
            have l1 : (0 : Int) ≤ (i : Int) := by omega
            have l2 : (i : Int) < (k : Int) - 1 := by omega
            obtain ⟨lr, hlr⟩ : ∃ lr, lr = (gr (encB k n m) (k + i)).length := ⟨_, rfl⟩
            rw [← hlr] at hpc2 hr2
            have HT := Lib.hid htw2
            clear hnil htw htw1 htw2 ez hpc hpr bx bx7 hlr
            go_wp2_with (at_builtin; first | (refine Lib.wpList_append_run _ rfl _ _ 80 80 rfl _ _ rfl rfl _ _ hr1 ?_) | (refine Lib.wpList_append_run _ rfl _ _ 36 36 rfl _ _ rfl rfl _ _ hr2 ?_))
            exact ⟨⟨i + 1, by omega, by go_num, HT.out, fun h => by omega⟩, by simp [intOf]; omega⟩
          obtain rfl : i = k - 1 := by omega
          have hbl := htw.bel
          have AT := Lib.hid (htw.ri (upZ_length _ _) (by omega))
          have HV := Lib.hid (htw.rd (upP_length _ _ _ _) (by omega))
          rename World => w3
          replace HB := Lib.hid (bthen HB.out hbl)
          replace RA := Lib.hid (RA.out.below hbl)
          replace RX := Lib.hid (RX.out.below hbl)
          replace BX := Lib.hid (BX.out.below hbl)
          replace HC := Lib.hid (HC.out.below hbl)
          replace P := Lib.hid (P.out.below hbl)
          have l9 : ¬ ((k - 1 : Nat) : Int) < (k : Int) - 1 := by omega
          have HNIL := Lib.hid hnil
          clear hnil htw hbl bx hik hi
          clear cx0 cx1
          have cx0 := BX.out.c0
          have cx1 := BX.out.c1
          by_cases hone : k = 1
          · skip
            subst hone
            obtain ⟨hA0, hB0⟩ := HNIL.out rfl
            simp only [Value.slice.injEq] at hA0 hB0
            obtain ⟨rfl, _, rfl⟩ := hA0
            obtain ⟨rfl, _, rfl⟩ := hB0
            obtain ⟨w4, hw4, hr1⟩ : ∃ w4, w4 = w3.alloc (.cells #[.int .i64 0] 3) ∧ (Builtin.append_ #[80, 80] 80 #[.slice (some ⟨w3.heap.size, 0, none⟩) 1 1, .slice none 0 0]).run Try.prog (w3.alloc (.cells #[.int .i64 0] 3)) = .ok (.slice (some ⟨w3.heap.size, 0, none⟩) 1 1) w4 := ⟨_, rfl, append_none_int w3 0 80⟩
            have b1 : Below w3.heap.size w3 w4 := by rw [hw4]; exact Below.alloc1 _ _
            have z1 : RI w4 (some ⟨w3.heap.size, 0, none⟩) 1 1 [0] := by rw [hw4]; exact ints1 (heap_alloc_new w3 (.cells #[.int .i64 0] 3))
            obtain ⟨w5, hw5, hr2⟩ : ∃ w5, w5 = w4.alloc (.cells #[.slice X lx cx] 35) ∧ (Builtin.append_ #[36, 36] 36 #[.slice (some ⟨w4.heap.size, 0, none⟩) 1 1, .slice none 0 0]).run Try.prog (w4.alloc (.cells #[.slice X lx cx] 35)) = .ok (.slice (some ⟨w4.heap.size, 0, none⟩) 1 1) w5 := ⟨_, rfl, append_none_row w4 X lx cx 36⟩
            have b2 : Below w4.heap.size w4 w5 := by rw [hw5]; exact Below.alloc1 _ _
            have b12 := bthen b1 b2
            have p1 : RD w5 (some ⟨w4.heap.size, 0, none⟩) 1 1 [xs] := by rw [hw5]; exact rows1 (heap_alloc_new w4 (.cells #[.slice X lx cx] 35)) ((RX.out.below b1).below (Below.alloc1 _ _))
            have ZZ : Hid (RI w5 (some ⟨w3.heap.size, 0, none⟩) 1 1 (0 :: upZ 1 (1 - 1))) := Lib.hid (z1.below b2)
            have PP : Hid (RD w5 (some ⟨w4.heap.size, 0, none⟩) 1 1 (xs :: upP 1 n m (1 - 1))) := Lib.hid p1
            clear hw4 hw5
            replace HB := Lib.hid (bthen HB.out b12)
            replace RA := Lib.hid (RA.out.below b12)
            replace RX := Lib.hid (RX.out.below b12)
            replace BX := Lib.hid (BX.out.below b12)
            replace HC := Lib.hid (HC.out.below b12)
            replace P := Lib.hid (P.out.below b12)
            replace AT := Lib.hid (AT.out.below b12)
            replace HV := Lib.hid (HV.out.below b12)
            clear cx0 cx1
            have cx0 := BX.out.c0
            have cx1 := BX.out.c1
            clear b1 b2 b12 z1 p1
            go_wp2_with (at_builtin; first | (refine Lib.wpList_append_run _ rfl _ _ 80 80 rfl _ _ rfl rfl _ _ hr1 ?_) | (refine Lib.wpList_append_run _ rfl _ _ 36 36 rfl _ _ rfl rfl _ _ hr2 ?_))
            clear hr1 hr2
            have HLE : Hid (∀ r ∈ xs :: upP 1 n m (1 - 1), r.length ≤ 1000000) := Lib.hid (fun r hr => by
              have h60 : (m.headD []).length ≤ 1000000 := by
                cases hm : m with
                | nil => simp
                | cons a t => exact HLL.out a (by rw [hm]; simp)
              rcases List.mem_cons.1 hr with e | e
              · rw [e, HXT.out, PRsEncode.gr_zero]; exact h60
              · unfold upP at e
                rw [List.mem_map] at e
                obtain ⟨t, htt, rfl⟩ := e
                rw [List.mem_range] at htt
                rw [encB_row _ (by omega)]
                unfold sumB
                rw [List.length_map, List.length_range]; exact h60)
            have hcl := dec_R HC.out ZZ.out (by omega) PP.out (by omega) HLE.out
            refine hcl.mono ?_
            clear hcl
            rintro e w7_ ⟨DD, sD, dD, x, evd, rfl, hp, hr, hbel⟩
            replace HB := Lib.hid (bthen HB.out hbel)
            replace RA := Lib.hid (RA.out.below hbel)
            replace RX := Lib.hid (RX.out.below hbel)
            replace BX := Lib.hid (BX.out.below hbel)
            replace HC := Lib.hid (HC.out.below hbel)
            replace P := Lib.hid (P.out.below hbel)
            replace AT := Lib.hid (AT.out.below hbel)
            replace HV := Lib.hid (HV.out.below hbel)
            replace ZZ := Lib.hid (ZZ.out.below hbel)
            replace PP := Lib.hid (PP.out.below hbel)
            have X_ := Lib.hid hr
            have HP := Lib.hid hp
            clear hr hp hbel
            clear cx0 cx1
            have cx0 := BX.out.c0
            have cx1 := BX.out.c1
            obtain ⟨hev, hxl, hxa, hx0, hxe⟩ := less_dec hk1 h2k' HE.out.1 HE.out.2 HXT.out HP.out
            obtain rfl : evd = 0 := hev
            obtain rfl : sD = 1 := by have := X_.out.len; rw [hxl] at this; omega
            have HXL := Lib.hid hxl
            have HXA := Lib.hid hxa
            have HXE := Lib.hid hxe
            have HX0 := Lib.hid hx0
            obtain ⟨xd, X0, cX0, eX, hxc, hxr⟩ := X_.out.row0 (by omega)
            subst eX
            rw [hx0] at hxc hxr
            have elx : xs.length = lx := HLX.out.symm
            rw [elx] at hxc hxr
            have hsm := same_R hxr RX.out
            have tk : ((1 : Int) != (1 : Int)) = false := by simp
            have k0 : (0 : Int) < (1 : Int) := by omega
            clear hxl hxa hxe hx0 elx hxr HP
            have hcl := hsm
            go_wp2_with fail
            refine hcl.mono ?_
            clear hcl
            rintro e w8_ ⟨rfl, hbel⟩
            replace HB := Lib.hid (bthen HB.out hbel)
            replace RA := Lib.hid (RA.out.below hbel)
            replace RX := Lib.hid (RX.out.below hbel)
            replace BX := Lib.hid (BX.out.below hbel)
            replace HC := Lib.hid (HC.out.below hbel)
            replace P := Lib.hid (P.out.below hbel)
            replace AT := Lib.hid (AT.out.below hbel)
            replace HV := Lib.hid (HV.out.below hbel)
            replace ZZ := Lib.hid (ZZ.out.below hbel)
            replace PP := Lib.hid (PP.out.below hbel)
            replace X_ := Lib.hid (X_.out.below hbel)
            clear hbel
            clear hsm hxc tk
            clear cx0 cx1
            have cx0 := BX.out.c0
            have cx1 := BX.out.c1
            have HXN : Hid (∀ r ∈ x, r.length ≤ 1000000) := Lib.hid (fun r hr => by
              rw [HXA.out r hr, ← PRsEncode.gr_zero, HX0.out]
              have := HLX60.out
              have := HLX.out
              omega)
            have hcl := enc_R HC.out X_.out (by omega) HXN.out
            go_wp2_with fail
            refine hcl.mono ?_
            clear hcl
            rintro e w9_ ⟨DQ, sQ, dQ, evq, rfl, hevq, hr, hbel⟩
            replace HB := Lib.hid (bthen HB.out hbel)
            replace RA := Lib.hid (RA.out.below hbel)
            replace RX := Lib.hid (RX.out.below hbel)
            replace BX := Lib.hid (BX.out.below hbel)
            replace HC := Lib.hid (HC.out.below hbel)
            replace P := Lib.hid (P.out.below hbel)
            replace AT := Lib.hid (AT.out.below hbel)
            replace HV := Lib.hid (HV.out.below hbel)
            replace ZZ := Lib.hid (ZZ.out.below hbel)
            replace PP := Lib.hid (PP.out.below hbel)
            replace X_ := Lib.hid (X_.out.below hbel)
            have Y := Lib.hid hr
            have HEQ := Lib.hid hevq
            clear hr hevq hbel
            clear cx0 cx1
            have cx0 := BX.out.c0
            have cx1 := BX.out.c1
            have e2 := Y.out
            rw [docEnc_ok HXL.out HXA.out] at e2
            clear Y
            have Y : Hid (RD _ _ _ _ (encB 1 n x)) := Lib.hid e2
            obtain rfl : n = sQ := by have := e2.len; rw [encB_length] at this; exact this
            clear e2 HEQ
            go_wp2_with fail
            go_loopw [134] (fun x wr => x = .int .i64 0 ∧ wr = w9_) (fun _ _ => 0)
            case atStart => exact ⟨rfl, rfl⟩
            case round =>
              obtain ⟨rfl, rfl⟩ := hrel
              go_wp2_with fail
              go_ret
              exact ⟨rfl, HB.out⟩
          obtain ⟨A1, c1, w4, hr1, zr, b1⟩ := append_ints_grow (heap_alloc_new w3 (.cells #[.int .i64 0] 3)) (AT.out.below (Below.alloc1 w3 (.cells #[.int .i64 0] 3))) (by omega) (by omega) 80
          have b01 := bthen (Below.alloc1 w3 (.cells #[.int .i64 0] 3)) b1
          have b2 := Below.alloc1 w4 (.cells #[.slice X lx cx] 35)
          have b02 := bthen b01 b2
          obtain ⟨A2, c2, w5, hr2, pr, b3⟩ := append_rows_one (heap_alloc_new w4 (.cells #[.slice X lx cx] 35)) (RX.out.below b02) (HV.out.below b02) (by omega) (by omega) 36
          have b12 := bthen b02 b3
          have ek : 1 + (k - 1) = k := by omega
          rw [ek] at hr1 zr hr2 pr
          have ZZ := Lib.hid ((zr.below b2).below b3)
          have PP := Lib.hid pr
          replace HB := Lib.hid (bthen HB.out b12)
          replace RA := Lib.hid (RA.out.below b12)
          replace RX := Lib.hid (RX.out.below b12)
          replace BX := Lib.hid (BX.out.below b12)
          replace HC := Lib.hid (HC.out.below b12)
          replace P := Lib.hid (P.out.below b12)
          replace AT := Lib.hid (AT.out.below b12)
          replace HV := Lib.hid (HV.out.below b12)
          clear cx0 cx1
          have cx0 := BX.out.c0
          have cx1 := BX.out.c1
          obtain ⟨km, hkm⟩ : ∃ km, km = k - 1 := ⟨_, rfl⟩
          clear b1 b01 b2 b02 b3 b12 ek zr pr hkm km
          go_wp2_with (at_builtin; first | (refine Lib.wpList_append_run _ rfl _ _ 80 80 rfl _ _ rfl rfl _ _ hr1 ?_) | (refine Lib.wpList_append_run _ rfl _ _ 36 36 rfl _ _ rfl rfl _ _ hr2 ?_))
          clear hr1 hr2
          have HLE : Hid (∀ r ∈ xs :: upP k n m (k - 1), r.length ≤ 1000000) := Lib.hid (fun r hr => by
            have h60 : (m.headD []).length ≤ 1000000 := by
              cases hm : m with
              | nil => simp
              | cons a t => exact HLL.out a (by rw [hm]; simp)
            rcases List.mem_cons.1 hr with e | e
            · rw [e, HXT.out, PRsEncode.gr_zero]; exact h60
            · unfold upP at e
              rw [List.mem_map] at e
              obtain ⟨t, htt, rfl⟩ := e
              rw [List.mem_range] at htt
              rw [encB_row _ (by omega)]
              unfold sumB
              rw [List.length_map, List.length_range]; exact h60)
          have hcl := dec_R HC.out ZZ.out (by omega) PP.out (by omega) HLE.out
          refine hcl.mono ?_
          clear hcl
          rintro e w7_ ⟨DD, sD, dD, x, evd, rfl, hp, hr, hbel⟩
          replace HB := Lib.hid (bthen HB.out hbel)
          replace RA := Lib.hid (RA.out.below hbel)
          replace RX := Lib.hid (RX.out.below hbel)
          replace BX := Lib.hid (BX.out.below hbel)
          replace HC := Lib.hid (HC.out.below hbel)
          replace P := Lib.hid (P.out.below hbel)
          replace AT := Lib.hid (AT.out.below hbel)
          replace HV := Lib.hid (HV.out.below hbel)
          replace ZZ := Lib.hid (ZZ.out.below hbel)
          replace PP := Lib.hid (PP.out.below hbel)
          have X_ := Lib.hid hr
          have HP := Lib.hid hp
          clear hr hp hbel
          clear cx0 cx1
          have cx0 := BX.out.c0
          have cx1 := BX.out.c1
          obtain ⟨hev, hxl, hxa, hx0, hxe⟩ := less_dec hk1 h2k' HE.out.1 HE.out.2 HXT.out HP.out
          obtain rfl : evd = 0 := hev
          obtain rfl : k = sD := by have := X_.out.len; rw [hxl] at this; omega
          have HXL := Lib.hid hxl
          have HXA := Lib.hid hxa
          have HXE := Lib.hid hxe
          have HX0 := Lib.hid hx0
          obtain ⟨xd, X0, cX0, eX, hxc, hxr⟩ := X_.out.row0 (by omega)
          subst eX
          rw [hx0] at hxc hxr
          have elx : xs.length = lx := HLX.out.symm
          rw [elx] at hxc hxr
          have hsm := same_R hxr RX.out
          have tk : ((k : Int) != (k : Int)) = false := by simp
          have k0 : (0 : Int) < (k : Int) := by omega
          clear hxl hxa hxe hx0 elx hxr HP
          have hcl := hsm
          go_wp2_with fail
          refine hcl.mono ?_
          clear hcl
          rintro e w8_ ⟨rfl, hbel⟩
          replace HB := Lib.hid (bthen HB.out hbel)
          replace RA := Lib.hid (RA.out.below hbel)
          replace RX := Lib.hid (RX.out.below hbel)
          replace BX := Lib.hid (BX.out.below hbel)
          replace HC := Lib.hid (HC.out.below hbel)
          replace P := Lib.hid (P.out.below hbel)
          replace AT := Lib.hid (AT.out.below hbel)
          replace HV := Lib.hid (HV.out.below hbel)
          replace ZZ := Lib.hid (ZZ.out.below hbel)
          replace PP := Lib.hid (PP.out.below hbel)
          replace X_ := Lib.hid (X_.out.below hbel)
          clear hbel
          clear hsm hxc tk
          clear cx0 cx1
          have cx0 := BX.out.c0
          have cx1 := BX.out.c1
          have HXN : Hid (∀ r ∈ x, r.length ≤ 1000000) := Lib.hid (fun r hr => by
            rw [HXA.out r hr, ← PRsEncode.gr_zero, HX0.out]
            have := HLX60.out
            have := HLX.out
            omega)
          have hcl := enc_R HC.out X_.out (by omega) HXN.out
          go_wp2_with fail
          refine hcl.mono ?_
          clear hcl
          rintro e w9_ ⟨DQ, sQ, dQ, evq, rfl, hevq, hr, hbel⟩
          replace HB := Lib.hid (bthen HB.out hbel)
          replace RA := Lib.hid (RA.out.below hbel)
          replace RX := Lib.hid (RX.out.below hbel)
          replace BX := Lib.hid (BX.out.below hbel)
          replace HC := Lib.hid (HC.out.below hbel)
          replace P := Lib.hid (P.out.below hbel)
          replace AT := Lib.hid (AT.out.below hbel)
          replace HV := Lib.hid (HV.out.below hbel)
          replace ZZ := Lib.hid (ZZ.out.below hbel)
          replace PP := Lib.hid (PP.out.below hbel)
          replace X_ := Lib.hid (X_.out.below hbel)
          have Y := Lib.hid hr
          have HEQ := Lib.hid hevq
          clear hr hevq hbel
          clear cx0 cx1
          have cx0 := BX.out.c0
          have cx1 := BX.out.c1
          have e2 := Y.out
          rw [docEnc_ok HXL.out HXA.out] at e2
          clear Y
          have Y : Hid (RD _ _ _ _ (encB k n x)) := Lib.hid e2
          obtain rfl : n = sQ := by have := e2.len; rw [encB_length] at this; exact this
          clear e2 HEQ
          go_wp2_with fail
          go_loopw [134] (fun x wr => ∃ i : Nat, i ≤ k - 1 ∧ x = .int .i64 i ∧ Below w9_.heap.size w9_ wr) (fun x _ => k - 1 - (intOf x).toNat)
          case atStart => exact ⟨0, by omega, rfl, Below.refl _ _⟩
          case round =>
            obtain ⟨i, hi, rfl, hbl⟩ := hrel
            by_cases hik : i < k - 1
            · skip
              obtain ⟨zd, eZ, hz⟩ := (AT.out.below hbl).num (k := i) hik
              subst eZ
              rw [upZ_at hik] at hz
              obtain ⟨vd, V1, cv, eV, hvc, hvr⟩ := (HV.out.below hbl).row (k := i) hik
              subst eV
              obtain ⟨yd, Y1, cy, eY, hyc, hyr⟩ := (Y.out.below hbl).row (k := k + i) (by omega)
              subst eY
              rw [HXE.out i hik] at hyc hyr
              obtain ⟨ly, hly⟩ : ∃ ly, ly = (gr (upP k n m (k - 1)) i).length := ⟨_, rfl⟩
              rw [← hly] at hvc hvr hyc hyr
              have HY1 := Lib.hid hyr
              have HV1 := Lib.hid hvr
              have HBL := Lib.hid hbl
              have bd : Below wr.heap.size wr wr.drew := ⟨rfl, rfl, rfl, Nat.le_refl _, fun _ _ => rfl⟩
              have y0 : wr.drew.cell? (yd.add (k + i)) = some (.slice Y1 ly cy) := hyc
              have y1 : wr.drew.cell? (vd.add i) = some (.slice V1 ly cv) := hvc
              have l1 : (0 : Int) ≤ (i : Int) := by omega
              have l2 : (i : Int) < ((k - 1 : Nat) : Int) := by omega
              have p0 : (0 : Int) ≤ ((k + i : Nat) : Int) := by omega
              have p1 : ((k + i : Nat) : Int) < (n : Int) := by omega
              obtain ⟨ki, hki⟩ : ∃ ki, ki = k + i := ⟨_, rfl⟩
              rw [← hki] at hz y0 p0 p1
              obtain ⟨k1_, hk1_⟩ : ∃ k1_, k1_ = k - 1 := ⟨_, rfl⟩
              clear hbl hyc hvc hyr hvr hly hki hk1_
              go_wp2
              refine start_ (n := 10) (S := fun w' => w'.cell? (yd.add ki) = some (.slice Y1 ly cy) ∧ w'.cell? (vd.add i) = some (.slice V1 ly cv)) (ds := []) #[false, false, false, false, false, false, false, false, false, false] (by kernel_rfl) rfl rfl ⟨y0, y1⟩ (fun hHeld => ?_)
              refine pure_ (i := 0) (N := some 139) (v := ?_) (a' := ?_) #[true, false, false, false, false, false, false, false, false, false] rfl rfl (by kernel_rfl) (fun _ _ _ h => h) (Or.inl ⟨by rfl, ?_⟩) ?_ ?_
              rotate_left
              · intro w'
                go_simp
                with_reducible rfl
              rotate_left
              · simp only [Act.put, List.setIfInBounds_toArray, List.set_cons_zero, List.set_cons_succ, i64_w, i32_w]
                rfl
              refine pure_ (i := 1) (N := some 140) (v := ?_) (a' := ?_) #[true, true, false, false, false, false, false, false, false, false] rfl rfl (by kernel_rfl) (fun _ _ _ h => h) (Or.inl ⟨by rfl, ?_⟩) ?_ ?_
              rotate_left
              · intro w'
                go_simp
                with_reducible rfl
              rotate_left
              · simp only [Act.put, List.setIfInBounds_toArray, List.set_cons_zero, List.set_cons_succ, i64_w, i32_w]
                rfl
              refine pure_ (i := 2) (N := some 141) (v := ?_) (a' := ?_) #[true, true, true, false, false, false, false, false, false, false] rfl rfl (by kernel_rfl) (fun _ _ _ h => h) (Or.inl ⟨by rfl, ?_⟩) ?_ ?_
              rotate_left
              · intro w'
                go_simp
                with_reducible rfl
              rotate_left
              · simp only [Act.put, List.setIfInBounds_toArray, List.set_cons_zero, List.set_cons_succ, i64_w, i32_w]
                rfl
              refine pure_ (i := 4) (N := some 143) (v := ?_) (a' := ?_) #[true, true, true, false, true, false, false, false, false, false] rfl rfl (by kernel_rfl) (fun _ _ _ h => h) (Or.inl ⟨by rfl, ?_⟩) ?_ ?_
              rotate_left
              · intro w'
                go_simp
                with_reducible rfl
              rotate_left
              · simp only [Act.put, List.setIfInBounds_toArray, List.set_cons_zero, List.set_cons_succ, i64_w, i32_w]
                rfl
              refine pure_ (i := 5) (N := some 144) (v := ?_) (a' := ?_) #[true, true, true, false, true, true, false, false, false, false] rfl rfl (by kernel_rfl) (fun _ _ _ h => h) (Or.inl ⟨by rfl, ?_⟩) ?_ ?_
              rotate_left
              · intro w'
                go_simp
                with_reducible rfl
              rotate_left
              · simp only [Act.put, List.setIfInBounds_toArray, List.set_cons_zero, List.set_cons_succ, i64_w, i32_w]
                rfl
              refine pure_ (i := 6) (N := some 145) (v := ?_) (a' := ?_) #[true, true, true, false, true, true, true, false, false, false] rfl rfl (by kernel_rfl) (fun _ _ _ h => h) (Or.inl ⟨by rfl, ?_⟩) ?_ ?_
              rotate_left
              · intro w'
                go_simp
                with_reducible rfl
              rotate_left
              · simp only [Act.put, List.setIfInBounds_toArray, List.set_cons_zero, List.set_cons_succ, i64_w, i32_w]
                rfl
              refine take_ (i := 3) (N := some 142) (v := ?_) (a' := ?_) #[true, true, true, true, true, true, true, false, false, false] rfl rfl (by kernel_rfl) (fun _ _ _ h => h) (Or.inl ⟨by rfl, ?_⟩) hHeld ?_ ?_
              rotate_left
              · rintro w' ⟨s0, s1⟩
                go_simp
                with_reducible rfl
              rotate_left
              · simp only [Act.put, List.setIfInBounds_toArray, List.set_cons_zero, List.set_cons_succ, i64_w, i32_w]
                rfl
              refine take_ (i := 7) (N := some 146) (v := ?_) (a' := ?_) #[true, true, true, true, true, true, true, true, false, false] rfl rfl (by kernel_rfl) (fun _ _ _ h => h) (Or.inl ⟨by rfl, ?_⟩) hHeld ?_ ?_
              rotate_left
              · rintro w' ⟨s0, s1⟩
                go_simp
                with_reducible rfl
              rotate_left
              · simp only [Act.put, List.setIfInBounds_toArray, List.set_cons_zero, List.set_cons_succ, i64_w, i32_w]
                rfl
              refine one_ (i := 8) (N := some 147) #[true, true, true, true, true, true, true, true, true, false] rfl rfl (by kernel_rfl) (by decide) (fun K hK => ?_)
              refine goes_ Try.func35 (by kernel_rfl) rfl #[.slice Y1 ly cy, .slice V1 ly cv] (by rfl) rfl rfl (by simp only [List.map_toArray, List.map_cons, List.map_nil]; rfl) ?_
              with_reducible refine (same_R (HY1.out.below bd) (HV1.out.below bd)).mono ?_
              rintro e v8 ⟨rfl, hb8⟩
              refine ⟨_, rfl, ?_⟩
              have z0 := pw_cell_below hb8 y0
              have z1 := pw_cell_below hb8 y1
              have HBL8 := Lib.hid (bthen HBL.out (bthen bd hb8))
              refine hK.out _ _ ⟨z0, z1⟩ (fun hHeld => ?_)
              clear hK K
              refine norm_ (a' := ?_) ?_ ?_
              rotate_left
              · show Act.put _ (some 147) _ = _
                simp only [Act.put, List.setIfInBounds_toArray, List.set_cons_zero, List.set_cons_succ, i64_w, i32_w]
                rfl
              refine pure_ (i := 9) (N := some 148) (v := ?_) (a' := ?_) #[true, true, true, true, true, true, true, true, true, true] rfl rfl (by kernel_rfl) (fun _ _ _ h => h) (Or.inl ⟨by rfl, ?_⟩) ?_ ?_
              rotate_left
              · intro w'
                go_simp
                with_reducible rfl
              rotate_left
              · simp only [Act.put, List.setIfInBounds_toArray, List.set_cons_zero, List.set_cons_succ, i64_w, i32_w]
                rfl
              refine done_ (by kernel_rfl) ?_
              go_wp2_with fail
              exact ⟨⟨i + 1, by omega, by go_num, HBL8.out⟩, by simp [intOf]; omega⟩
            obtain rfl : i = k - 1 := by omega
            have HBF := Lib.hid (bthen HB.out hbl)
            clear hbl
            go_wp2_with fail
            go_ret
            exact ⟨rfl, HBF.out⟩
  · skip
    have HR := Lib.hid hR
    clear hR
    go_enter Try.func18, Try.ntmps18
    go_wp2_with fail
    rw [← HW0.out, ← HGB.out]
    clear HW0 HGB
    have hcl := wakes09 w0_
    refine hcl.mono ?_
    clear hcl
    rintro e w2_ ⟨rfl, hbel⟩
    replace HB := Lib.hid (bthen HB.out hbel)
    replace RA := Lib.hid (RA.out.below hbel)
    replace RX := Lib.hid (RX.out.below hbel)
    replace BX := Lib.hid (BX.out.below hbel)
    clear hbel
    have cx0 := BX.out.c0
    have cx1 := BX.out.c1
    have hcl := code_bad ka nb HR.out w2_
    go_wp2_with fail
    refine hcl.mono ?_
    clear hcl
    rintro e w3_ ⟨rfl, hbel⟩
    replace HB := Lib.hid (bthen HB.out hbel)
    replace RA := Lib.hid (RA.out.below hbel)
    replace RX := Lib.hid (RX.out.below hbel)
    replace BX := Lib.hid (BX.out.below hbel)
    clear hbel
    clear cx0 cx1
    have cx0 := BX.out.c0
    have cx1 := BX.out.c1
    have hrr := right9 ka nb w3_
    rw [decide_eq_false HR.out] at hrr
    have hcl := hrr
    go_wp2_with fail
    refine hcl.mono ?_
    clear hcl
    rintro e w4_ ⟨rfl, hbel⟩
    replace HB := Lib.hid (bthen HB.out hbel)
    replace RA := Lib.hid (RA.out.below hbel)
    replace RX := Lib.hid (RX.out.below hbel)
    replace BX := Lib.hid (BX.out.below hbel)
    clear hbel
    clear hrr
    clear cx0 cx1
    have cx0 := BX.out.c0
    have cx1 := BX.out.c1
    go_wp2_with fail
    go_ret
    exact ⟨rfl, HB.out⟩
end Go.Proofs.Ytoijjlpkoniipaa
