/- The law RsAny. -/
import Derived.Test.YtoijjlpkoniipaaAnyPlain
set_option linter.unusedVariables false
set_option linter.unusedSimpArgs false
namespace Go.Proofs.Ytoijjlpkoniipaa
open Go.RowKit Go.Proofs.YtoijjlpkoniipaaW.PrintWords Go.Proofs.YtoijjlpkoniipaaW.PrintLast Gf Lin
set_option maxHeartbeats 4000000 in
set_option maxRecDepth 100000 in
theorem RsAny_walk (w : World) (ka nb : Int) (_k0 : -9223372036854775808 ≤ ka) (_k1 : ka ≤ 9223372036854775807) (_n0 : -9223372036854775808 ≤ nb) (_n1 : nb ≤ 9223372036854775807)
    (A : Option Addr) (m : List (List UInt8)) (ca : Nat) (hca : m.length ≤ ca) (hra : KBB.C w A m.length (bss m)) (X : Option Addr) (xs : List UInt8) (cx : Nat) (hcx : xs.length ≤ cx) (hrx : KB.C w X xs.length (bs xs)) :
    Calls Try.prog 21 #[.agg #[.int .i64 ka, .int .i64 nb], .slice A m.length ca, .slice X xs.length cx] w fun e w' => e = .returned (.bool true) ∧ Below w.heap.size w w' := by
  have RA := Lib.hid (RD.mk hca hra)
  have RX := Lib.hid (RS.mk hcx hrx)
  obtain ⟨q, hq_⟩ : ∃ q, q = m.length := ⟨_, rfl⟩
  obtain ⟨lx, hlx_⟩ : ∃ lx, lx = xs.length := ⟨_, rfl⟩
  rw [← hq_] at RA ⊢
  rw [← hlx_] at RX ⊢
  have HQ := Lib.hid hq_
  clear hca hra hcx hrx hq_ hlx_
  obtain ⟨w0_, hw0⟩ : ∃ w0_, w0_ = w.alloc (.cells #[.int .i64 ka, .int .i64 nb] 49) := ⟨_, rfl⟩
  obtain ⟨gb_, hgb⟩ : ∃ gb_, gb_ = w.heap.size := ⟨_, rfl⟩
  have BX : Hid (Bx w0_ gb_ ka nb) := Lib.hid (by rw [hw0, hgb]; exact Bx.new w ka nb)
  have hbel : Below w.heap.size w w0_ := by rw [hw0]; exact Below.alloc1 _ _
  have HB := Lib.hid hbel
  replace RA := Lib.hid (RA.out.below hbel)
  replace RX := Lib.hid (RX.out.below hbel)
  have HW0 := Lib.hid hw0
  have HGB := Lib.hid hgb
  clear hbel hw0 hgb
  by_cases hR : 1 ≤ ka ∧ ka ≤ nb ∧ nb ≤ 255
  · by_cases hbig : 8 < ka ∨ 24 < nb
    · skip
      have HR := Lib.hid hR
      have HBIG := Lib.hid hbig
      clear hR hbig
      go_enter Try.func21, Try.ntmps21
      go_wp2_with fail
      rw [← HW0.out, ← HGB.out]
      clear HW0 HGB
      have hcl := wakes09 w0_
      refine hcl.mono ?_
      clear hcl
      rintro e w2_ ⟨rfl, hbel⟩
      replace HB := Lib.hid (bthen HB.out hbel)
      replace RA := Lib.hid (RA.out.below hbel)
      replace RX := Lib.hid (RX.out.below hbel)
      replace BX := Lib.hid (BX.out.below hbel)
      clear hbel
      have cx0 := BX.out.c0
      have cx1 := BX.out.c1
      have hcl := code_big ka nb HR.out HBIG.out w2_
      go_wp2_with fail
      refine hcl.mono ?_
      clear hcl
      rintro e w3_ ⟨rfl, hbel⟩
      replace HB := Lib.hid (bthen HB.out hbel)
      replace RA := Lib.hid (RA.out.below hbel)
      replace RX := Lib.hid (RX.out.below hbel)
      replace BX := Lib.hid (BX.out.below hbel)
      clear hbel
      clear cx0 cx1
      have cx0 := BX.out.c0
      have cx1 := BX.out.c1
      go_wp2_with fail
      go_ret
      exact ⟨rfl, HB.out⟩
    · skip
      obtain ⟨k, rfl⟩ : ∃ k : Nat, ka = (k : Int) := ⟨ka.toNat, by omega⟩
      obtain ⟨n, rfl⟩ : ∃ n : Nat, nb = (n : Int) := ⟨nb.toNat, by omega⟩
      have hk1 : 1 ≤ k := by omega
      have hkn : k ≤ n := by omega
      have h8 : k ≤ 8 := by omega
      have h24 : n ≤ 24 := by omega
      have hn2 : n ≤ 255 := by omega
      have HR := Lib.hid hR
      clear hR hbig
      go_enter Try.func21, Try.ntmps21
      go_wp2_with fail
      rw [← HW0.out, ← HGB.out]
      clear HW0 HGB
      have hcl := wakes09 w0_
      refine hcl.mono ?_
      clear hcl
      rintro e w2_ ⟨rfl, hbel⟩
      replace HB := Lib.hid (bthen HB.out hbel)
      replace RA := Lib.hid (RA.out.below hbel)
      replace RX := Lib.hid (RX.out.below hbel)
      replace BX := Lib.hid (BX.out.below hbel)
      clear hbel
      have cx0 := BX.out.c0
      have cx1 := BX.out.c1
      have hcl := code_ok k n hk1 hkn h8 h24 (k : Int) (n : Int) rfl rfl w2_
      go_wp2_with fail
      refine hcl.mono ?_
      clear hcl
      rintro e w3_ ⟨gc, gt, Ac, capc, rfl, hcd, hbel⟩
      replace HB := Lib.hid (bthen HB.out hbel)
      replace RA := Lib.hid (RA.out.below hbel)
      replace RX := Lib.hid (RX.out.below hbel)
      replace BX := Lib.hid (BX.out.below hbel)
      have HC := Lib.hid hcd
      clear hcd hbel
      clear cx0 cx1
      have cx0 := BX.out.c0
      have cx1 := BX.out.c1
      have hrr := right9 (k : Int) (n : Int) w3_
      rw [decide_eq_true HR.out] at hrr
      have hcl := hrr
      go_wp2_with fail
      refine hcl.mono ?_
      clear hcl
      rintro e w4_ ⟨rfl, hbel⟩
      replace HB := Lib.hid (bthen HB.out hbel)
      replace RA := Lib.hid (RA.out.below hbel)
      replace RX := Lib.hid (RX.out.below hbel)
      replace BX := Lib.hid (BX.out.below hbel)
      replace HC := Lib.hid (HC.out.below hbel)
      clear hbel
      clear hrr
      clear cx0 cx1
      have cx0 := BX.out.c0
      have cx1 := BX.out.c1
      have hcl := long_R RA.out 10 60
      go_wp2_with fail
      refine hcl.mono ?_
      clear hcl
      rintro e w5_ ⟨b_, rfl, hbe, hbel⟩
      replace HB := Lib.hid (bthen HB.out hbel)
      replace RA := Lib.hid (RA.out.below hbel)
      replace RX := Lib.hid (RX.out.below hbel)
      replace BX := Lib.hid (BX.out.below hbel)
      replace HC := Lib.hid (HC.out.below hbel)
      clear hbel
      clear cx0 cx1
      have cx0 := BX.out.c0
      have cx1 := BX.out.c1
      cases hl : PRsEncode.isLong m 10 60 with
      | true =>
        rw [hl] at hbe
        subst hbe
        clear hl
        go_wp2_with fail
        go_ret
        exact ⟨rfl, HB.out⟩
      | false =>
        rw [hl] at hbe
        subst hbe
        have LRA := Lib.hid (PRsEncode.isLong_false hl)
        clear hl
        by_cases hp : 100 < lx
        · skip
          have t1 : decide ((100 : Int) < (lx : Int)) = true := decide_eq_true (by omega)
          have t2 : decide ((lx : Int) > 100) = true := decide_eq_true (by omega)
          clear hp
          go_wp2_with fail
          go_ret
          exact ⟨rfl, HB.out⟩
        have t1 : decide ((100 : Int) < (lx : Int)) = false := decide_eq_false (by omega)
        have t2 : decide ((lx : Int) > 100) = false := decide_eq_false (by omega)
        have hlx : lx ≤ 100 := by omega
        clear hp
        have HLL : Hid (∀ r ∈ m, r.length ≤ 1000000) := Lib.hid (fun r hr => by have := LRA.out.2 r hr; omega)
        have hq10 : q ≤ 10 := by have := LRA.out.1; have := HQ.out; omega
        have hcl := enc_R HC.out RA.out (by omega) HLL.out
        go_wp2_with fail
        refine hcl.mono ?_
        clear hcl
        rintro e w6_ ⟨DE, sE, dE, ev, rfl, hev, hr, hbel⟩
        replace HB := Lib.hid (bthen HB.out hbel)
        replace RA := Lib.hid (RA.out.below hbel)
        replace RX := Lib.hid (RX.out.below hbel)
        replace BX := Lib.hid (BX.out.below hbel)
        replace HC := Lib.hid (HC.out.below hbel)
        have P := Lib.hid hr
        have HEV := Lib.hid hev
        clear hr hev hbel
        clear t1 t2
        clear cx0 cx1
        have cx0 := BX.out.c0
        have cx1 := BX.out.c1
        by_cases hE : m.length = k ∧ Alike m
        rotate_left
        · skip
          have e1 := HEV.out
          rw [docEnc_no hE] at e1
          obtain rfl : ev = 14 := e1
          clear hE
          go_wp2_with fail
          go_ret
          exact ⟨rfl, HB.out⟩
        have e1 := HEV.out
        have e2 := P.out
        rw [docEnc_ok hE.1 hE.2] at e1 e2
        obtain rfl : ev = 0 := e1
        obtain rfl : n = sE := by have := e2.len; rw [encB_length] at this; exact this
        clear P
        have P : Hid (RD _ _ _ _ (encB k n m)) := Lib.hid e2
        have HE := Lib.hid hE
        clear e2 hE HEV
        go_wp2_with (first | (refine wpList_build_run rfl 86 rfl _ (build86 _) ?_) | (refine wpList_store_run' rfl 86 _ _ rfl rfl _ rfl _ rfl _ (store86 _) ?_))
        have ham := Am.start w6_
        obtain ⟨ge, hge⟩ : ∃ ge, ge = w6_.heap.size := ⟨_, rfl⟩
        rw [← hge] at ham ⊢
        have HGE := Lib.hid hge
        have HAM := Lib.hid ham
        clear hge ham
        go_loopw [12, 66] (fun v x wr => ∃ (i : Nat) (zs : List Int), i ≤ lx ∧ x = .int .i64 i ∧ Am w6_ wr ge v zs ∧ AtOk n zs) (fun _ x _ => lx - (intOf x).toNat)
        case atStart => exact ⟨0, [], by omega, rfl, HAM.out, AtOk.nil _⟩
        case round =>
          clear cx0 cx1 HAM
          obtain ⟨i, zs, hi, rfl, ham, hok⟩ := hrel
          obtain ⟨A0, cap0, rfl⟩ := ham.form
          have hzl := hok.len
          obtain ⟨l, hl⟩ : ∃ l, l = zs.length := ⟨_, rfl⟩
          rw [← hl] at hzl ham ⊢
          have HL := Lib.hid hl
          have bx := BX.out.below ham.bel'
          have cx0 := bx.c0
          have cx1 := bx.c1
          by_cases hil : i < lx
          · skip
            obtain ⟨xd, eX, hbyte⟩ := (RX.out.below ham.bel').byte (k := i) hil
            subst eX
            obtain ⟨b, hb⟩ : ∃ b, b = (gb xs i).toNat := ⟨_, rfl⟩
            rw [← hb] at hbyte
            have hb2 : b < 256 := by rw [hb]; exact UInt8.toNat_lt _
            obtain ⟨p, hp⟩ : ∃ p, p = b % n := ⟨_, rfl⟩
            have hpn : p < n := by rw [hp]; exact Nat.mod_lt _ (by omega)
            have hpe : (b : Int) % (n : Int) = (p : Int) := by rw [hp]; omega
            have r0 : (0 : Int) < (n : Int) := by omega
            have p0 : (0 : Int) ≤ (p : Int) := by omega
            have p1 : (p : Int) < 256 := by omega
            have l1 : (0 : Int) ≤ (i : Int) := by omega
            have l2 : (i : Int) < (lx : Int) := by omega
            have hmc := ham.cell (p := p) (by omega)
            have hmf := ham.frz p
            by_cases hmem : (p : Int) ∈ zs
            · skip
              rw [decide_eq_true hmem] at hmc
              have HAM := Lib.hid ham
              have HOK := Lib.hid hok
              clear ham hok bx hb hp hmem hl
              go_wp2_with fail
              exact ⟨⟨i + 1, zs, by omega, by go_num, HAM.out, HOK.out⟩, by simp [intOf]; omega⟩
            · skip
              clear hb hp
              rw [decide_eq_false hmem] at hmc
              obtain ⟨A', cap', w8, hr, ham2⟩ := ham.step (p := p) (by omega) (by omega) 80
              have hok2 := hok.push (p := p) (by omega) hmem
              rw [← hl] at hr ham2
              have HAM := Lib.hid ham2
              have HOK := Lib.hid hok2
              clear ham ham2 hok hok2 bx hmem hl
              go_wp2_with (at_builtin; refine Lib.wpList_append_run _ rfl _ _ _ _ rfl _ _ rfl rfl _ _ hr ?_)
              exact ⟨⟨i + 1, zs ++ [(p : Int)], by omega, by go_num, HAM.out, HOK.out⟩, by simp [intOf]; omega⟩
          obtain rfl : lx = i := by omega
          have HAM := Lib.hid ham
          have HOK := Lib.hid hok
          clear ham hok bx hl hil hi
          go_wp2_with fail
          go_loopw [12, 17] (fun v x wr => ∃ (i : Nat) (zs : List Int), i ≤ n ∧ x = .int .i64 i ∧ Am w6_ wr ge v zs ∧ AtOk n zs ∧ ∀ q : Nat, q < i → (q : Int) ∈ zs) (fun _ x _ => n - (intOf x).toNat)
          case atStart => exact ⟨0, zs, by omega, rfl, HAM.out, HOK.out, fun q hq => by omega⟩
          case round =>
            clear cx0 cx1 HAM HOK hzl HL
            obtain ⟨i, zs, hi, rfl, ham, hok, hall⟩ := hrel
            obtain ⟨A0, cap0, rfl⟩ := ham.form
            have hzl := hok.len
            have hmany := many_ints i zs hall
            obtain ⟨l, hl⟩ : ∃ l, l = zs.length := ⟨_, rfl⟩
            rw [← hl] at hzl hmany ham ⊢
            have HL := Lib.hid hl
            have HALL := Lib.hid hall
            have bx := BX.out.below ham.bel'
            have cx0 := bx.c0
            have cx1 := bx.c1
            clear hall
            by_cases hlk : l < k
            · skip
              have t1 : decide ((l : Int) < (k : Int)) = true := decide_eq_true (by omega)
              have t2 : decide (l < k) = true := decide_eq_true hlk
              have p0 : (0 : Int) ≤ (i : Int) := by omega
              have p1 : (i : Int) < 256 := by omega
              have hmc := ham.cell (p := i) (by omega)
              have hmf := ham.frz i
              by_cases hmem : (i : Int) ∈ zs
              · skip
                rw [decide_eq_true hmem] at hmc
                have HAM := Lib.hid ham
                have HOK := Lib.hid hok
                have HMEM := Lib.hid hmem
                clear ham hok bx hmem hl
                go_wp2_with fail
                exact ⟨⟨i + 1, zs, by omega, by go_num, HAM.out, HOK.out, fun q hq => by
                  by_cases hqi : q = i
                  · rw [hqi]; exact HMEM.out
                  · exact HALL.out q (by omega)⟩, by simp [intOf]; omega⟩
              · skip
                rw [decide_eq_false hmem] at hmc
                obtain ⟨A', cap', w8, hr, ham2⟩ := ham.step (p := i) (by omega) (by omega) 80
                have hok2 := hok.push (p := i) (by omega) hmem
                rw [← hl] at hr ham2
                have HAM := Lib.hid ham2
                have HOK := Lib.hid hok2
                clear ham ham2 hok hok2 bx hmem hl
                go_wp2_with (at_builtin; refine Lib.wpList_append_run _ rfl _ _ _ _ rfl _ _ rfl rfl _ _ hr ?_)
                exact ⟨⟨i + 1, zs ++ [(i : Int)], by omega, by go_num, HAM.out, HOK.out, fun q hq => by
                  by_cases hqi : q = i
                  · rw [hqi]; simp
                  · exact List.mem_append_left _ (HALL.out q (by omega))⟩, by simp [intOf]; omega⟩
            have t1 : decide ((l : Int) < (k : Int)) = false := decide_eq_false (by omega)
            have t2 : decide (l < k) = false := decide_eq_false hlk
            have hkl : k ≤ l := by omega
            have AT := Lib.hid (ham.ri hl.symm (by omega))
            have hbl := ham.bel'
            have HOK := Lib.hid hok
            rename World => w3
            replace HB := Lib.hid (bthen HB.out hbl)
            replace RA := Lib.hid (RA.out.below hbl)
            replace RX := Lib.hid (RX.out.below hbl)
            replace BX := Lib.hid (BX.out.below hbl)
            replace HC := Lib.hid (HC.out.below hbl)
            replace P := Lib.hid (P.out.below hbl)
            clear hl ham hok bx hmany HALL hbl hi
            go_wp2_with fail
            go_loopw [18, 105] (fun v x wr => ∃ i : Nat, i ≤ l ∧ x = .int .i64 i ∧ Gw w3 wr v i (pickP k n m zs i)) (fun _ x _ => l - (intOf x).toNat)
            case atStart => exact ⟨0, by omega, rfl, Gw.start _⟩
            case round =>
              obtain ⟨i, hi, rfl, hgw⟩ := hrel
              obtain ⟨A1, cap1, rfl⟩ := hgw.form
              by_cases hil : i < l
              · skip
                obtain ⟨zd, eZ, hz⟩ := (AT.out.below hgw.bel).num (k := i) hil
                subst eZ
                obtain ⟨z0, z1⟩ := HOK.out.range (i := i) (by have := HL.out; omega)
                obtain ⟨p, hp⟩ : ∃ p : Nat, gz zs i = (p : Int) := ⟨(gz zs i).toNat, by omega⟩
                rw [hp] at hz z1
                have hpn : p < n := by omega
                obtain ⟨pd, R, cR, eP, hpc, hpr⟩ := P.out.row (k := p) hpn
                subst eP
                have hold := hgw.older0 hpr
                have hpc2 := pw_cell_below hgw.bel hpc
                have hpr2 := hpr.below hgw.bel
                obtain ⟨A2, cap2, w8, hr, hgw2⟩ := hgw.step0 (Below.refl _ _) hpr2 hold (by omega) 36
                have ep : pickP k n m zs i ++ [gr (encB k n m) p] = pickP k n m zs (i + 1) := by rw [pickP_succ, hp, Int.toNat_natCast]
                rw [ep] at hgw2
                obtain ⟨lr, hlr⟩ : ∃ lr, lr = (gr (encB k n m) p).length := ⟨_, rfl⟩
                rw [← hlr] at hpc2 hr
                have HG := Lib.hid hgw2
                have p0 : (0 : Int) ≤ (p : Int) := by omega
                have l1 : (0 : Int) ≤ (i : Int) := by omega
                have l2 : (i : Int) < (l : Int) := by omega
                clear hgw hgw2 ep hold hpc hpr hpr2 hp z0 hlr
                go_wp2_with (at_builtin; refine Lib.wpList_append_run _ rfl _ _ _ _ rfl _ _ rfl rfl _ _ hr ?_)
                exact ⟨⟨i + 1, by omega, by go_num, HG.out⟩, by simp [intOf]; omega⟩
              obtain rfl : l = i := by omega
              have HV : Hid (RD _ _ _ _ (pickP k n m zs zs.length)) := Lib.hid (by rw [← HL.out]; exact hgw.rd (by omega))
              have hbl := hgw.bel
              replace HB := Lib.hid (bthen HB.out hbl)
              replace RA := Lib.hid (RA.out.below hbl)
              replace RX := Lib.hid (RX.out.below hbl)
              replace BX := Lib.hid (BX.out.below hbl)
              replace HC := Lib.hid (HC.out.below hbl)
              replace P := Lib.hid (P.out.below hbl)
              replace AT := Lib.hid (AT.out.below hbl)
              clear hgw hbl hil
              clear cx0 cx1
              have cx0 := BX.out.c0
              have cx1 := BX.out.c1
              have HLE : Hid (∀ r ∈ pickP k n m zs zs.length, r.length ≤ 1000000) := Lib.hid (fun r hr => by
                rw [pickP_mem HOK.out (Nat.le_refl _) hr]
                cases hm : m with
                | nil => simp
                | cons a t => exact HLL.out a (by rw [hm]; simp))
              have HKL : Hid (k ≤ zs.length) := Lib.hid (by have := HL.out; omega)
              clear t1 t2 hlk
              have hcl := dec_R HC.out AT.out (by omega) HV.out (by omega) HLE.out
              go_wp2_with fail
              refine hcl.mono ?_
              clear hcl
              rintro e w7_ ⟨DD, sD, dD, x, evd, rfl, hp, hr, hbel⟩
              replace HB := Lib.hid (bthen HB.out hbel)
              replace RA := Lib.hid (RA.out.below hbel)
              replace RX := Lib.hid (RX.out.below hbel)
              replace BX := Lib.hid (BX.out.below hbel)
              replace HC := Lib.hid (HC.out.below hbel)
              replace P := Lib.hid (P.out.below hbel)
              replace AT := Lib.hid (AT.out.below hbel)
              replace HV := Lib.hid (HV.out.below hbel)
              have X_ := Lib.hid hr
              have HP := Lib.hid hp
              clear hr hp hbel
              clear cx0 cx1
              have cx0 := BX.out.c0
              have cx1 := BX.out.c1
              obtain ⟨rfl, rfl⟩ := any_dec hk1 HE.out.1 HE.out.2 HOK.out HKL.out HP.out
              have hcl := sameall_R X_.out RA.out 60 LRA.out.2 (by omega)
              go_wp2_with fail
              refine hcl.mono ?_
              clear hcl
              rintro e w8_ ⟨rfl, hbel⟩
              replace HB := Lib.hid (bthen HB.out hbel)
              replace RA := Lib.hid (RA.out.below hbel)
              replace RX := Lib.hid (RX.out.below hbel)
              replace BX := Lib.hid (BX.out.below hbel)
              replace HC := Lib.hid (HC.out.below hbel)
              replace P := Lib.hid (P.out.below hbel)
              replace AT := Lib.hid (AT.out.below hbel)
              replace HV := Lib.hid (HV.out.below hbel)
              replace X_ := Lib.hid (X_.out.below hbel)
              clear hbel
              clear HP
              clear cx0 cx1
              have cx0 := BX.out.c0
              have cx1 := BX.out.c1
              go_wp2_with fail
              go_loopw [134] (fun x wr => ∃ i : Nat, i ≤ n ∧ x = .int .i64 i ∧ Below w8_.heap.size w8_ wr) (fun x _ => n - (intOf x).toNat)
              case atStart => exact ⟨0, by omega, rfl, Below.refl _ _⟩
              case round =>
                obtain ⟨i, hi, rfl, hbl⟩ := hrel
                by_cases hin : i < n
                · skip
                  have hag := again_R (HC.out.below hbl) (AT.out.below hbl) (by omega) (HV.out.below hbl) (by omega) HLE.out (i : Int)
                  have l1 : (0 : Int) ≤ (i : Int) := by omega
                  have l2 : (i : Int) < (n : Int) := by omega
                  have HBL := Lib.hid hbl
                  clear hbl
                  go_wp2_with fail
                  refine hag.mono ?_
                  clear hag
                  rintro e w8 ⟨D8, s8, d8, r8, ev8, rfl, hp8, hr8, hb8⟩
                  obtain ⟨rfl, rfl⟩ := any_again hk1 HE.out.1 HE.out.2 HOK.out HKL.out hin hp8
                  have hbl := bthen HBL.out hb8
                  obtain ⟨pd, R, cR, eP, hpc, hpr⟩ := (P.out.below hbl).row (k := i) hin
                  subst eP
                  have hsm := same_R hr8 hpr
                  obtain ⟨lr, hlr⟩ : ∃ lr, lr = (gr (encB k n x) i).length := ⟨_, rfl⟩
                  rw [← hlr] at hpc hsm
                  have HBL8 := Lib.hid hbl
                  clear hp8 hr8 hb8 hbl hpr hlr
                  go_wp2_with fail
                  refine hsm.mono ?_
                  clear hsm
                  rintro e w9 ⟨rfl, hb9⟩
                  have HBL9 := Lib.hid (bthen HBL8.out hb9)
                  clear hb9
                  go_wp2_with fail
                  exact ⟨⟨i + 1, by omega, by go_num, HBL9.out⟩, by simp [intOf]; omega⟩
                obtain rfl : n = i := by omega
                have HBF := Lib.hid (bthen HB.out hbl)
                clear hbl
                go_wp2_with fail
                go_ret
                exact ⟨rfl, HBF.out⟩
  · skip
    have HR := Lib.hid hR
    clear hR
    go_enter Try.func21, Try.ntmps21
    go_wp2_with fail
    rw [← HW0.out, ← HGB.out]
    clear HW0 HGB
    have hcl := wakes09 w0_
    refine hcl.mono ?_
    clear hcl
    rintro e w2_ ⟨rfl, hbel⟩
    replace HB := Lib.hid (bthen HB.out hbel)
    replace RA := Lib.hid (RA.out.below hbel)
    replace RX := Lib.hid (RX.out.below hbel)
    replace BX := Lib.hid (BX.out.below hbel)
    clear hbel
    have cx0 := BX.out.c0
    have cx1 := BX.out.c1
    have hcl := code_bad ka nb HR.out w2_
    go_wp2_with fail
    refine hcl.mono ?_
    clear hcl
    rintro e w3_ ⟨rfl, hbel⟩
    replace HB := Lib.hid (bthen HB.out hbel)
    replace RA := Lib.hid (RA.out.below hbel)
    replace RX := Lib.hid (RX.out.below hbel)
    replace BX := Lib.hid (BX.out.below hbel)
    clear hbel
    clear cx0 cx1
    have cx0 := BX.out.c0
    have cx1 := BX.out.c1
    have hrr := right9 ka nb w3_
    rw [decide_eq_false HR.out] at hrr
    have hcl := hrr
    go_wp2_with fail
    refine hcl.mono ?_
    clear hcl
    rintro e w4_ ⟨rfl, hbel⟩
    replace HB := Lib.hid (bthen HB.out hbel)
    replace RA := Lib.hid (RA.out.below hbel)
    replace RX := Lib.hid (RX.out.below hbel)
    replace BX := Lib.hid (BX.out.below hbel)
    clear hbel
    clear hrr
    clear cx0 cx1
    have cx0 := BX.out.c0
    have cx1 := BX.out.c1
    go_wp2_with fail
    go_ret
    exact ⟨rfl, HB.out⟩
end Go.Proofs.Ytoijjlpkoniipaa
