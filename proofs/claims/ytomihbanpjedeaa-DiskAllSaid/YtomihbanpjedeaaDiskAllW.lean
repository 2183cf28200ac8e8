/- The law DiskAll, whatever comes in: the walk. -/
import Derived.Test.YtomihbanpjedeaaDiskAll
namespace Go.Proofs.Ytomihbanpjedeaa
open Go.RowKit
set_option linter.unusedSimpArgs false
set_option maxHeartbeats 4000000 in
set_option maxRecDepth 100000 in
theorem DiskAll_go (A : Option Addr) (cA : Nat) (L : List Ac) (B : Option Addr) (cB : Nat) (M : List Ac) (w : World) (hL : Acts w A L) (hM : Acts w B M) :
    Calls Try.prog 6 #[.slice A L.length cA, .slice B M.length cB] w fun e w' => e = .returned (.bool true) ∧ Below w.heap.size w w' := by
  have hlo := long_calls A cA L
  have hlo' := long_calls B cB M
  obtain ⟨n, hn⟩ : ∃ n, n = L.length := ⟨_, rfl⟩
  obtain ⟨m, hm⟩ : ∃ m, m = M.length := ⟨_, rfl⟩
  have Hn := Lib.hid hn
  have Hm := Lib.hid hm
  rw [← hn, ← hm]
  rw [← hn] at hlo
  rw [← hm] at hlo'
  clear hn hm
  have HL := Lib.hid hL
  have HM := Lib.hid hM
  clear hL hM
  go_enter Try.func6, Try.ntmps6
  go_wp2_with fail
  refine (disk_wakes _).mono ?_
  rintro e w1 ⟨rfl, hb1⟩
  have hL1 := HL.out.below hb1
  have hM1 := HM.out.below hb1
  have HL1 := Lib.hid hL1
  have HM1 := Lib.hid hM1
  have q1 := hlo w1 hL1
  have q2 := hlo' w1 hM1
  clear hlo hlo' hL1 hM1 HL HM
  go_wp2_with fail
  refine q1.mono ?_
  clear q1
  rintro e w2 ⟨b, rfl, rfl, hbL⟩
  cases b with
  | true =>
    clear q2
    go_wp2_with fail
    go_ret
    exact ⟨rfl, hb1⟩
  | false =>
    go_wp2_with fail
    refine q2.mono ?_
    clear q2
    rintro e w3 ⟨b, rfl, rfl, hbM⟩
    cases b with
    | true =>
      go_wp2_with fail
      go_ret
      exact ⟨rfl, hb1⟩
    | false =>
      have hb5 := hbL trivial
      have hb6 := hbM rfl
      have hn1 : n ≤ 100 := by have := hb5.1; have := Hn.out; omega
      have hm1 : m ≤ 100 := by have := hb6.1; have := Hm.out; omega
      clear hb5 hb6 hbL hbM
      go_wp2_with fail
      refine (disk_new_calls 8 8 (by omega) (by omega) w3).mono ?_
      rintro e w4 ⟨d1, G1, rfl, hD1, hb4, hF1⟩
      have hz1 : Dz w3 w4 G1 d1 8 (St.new 8) := ⟨hD1, hb4, hF1⟩
      have HZ1 := Lib.hid hz1
      clear hD1 hb4 hF1 hz1
      go_wp2_with fail
      refine (disk_new_calls 8 8 (by omega) (by omega) w4).mono ?_
      rintro e w5 ⟨d2, G2, rfl, hD2, hb5, hF2⟩
      have hz1 := HZ1.out.below hb5
      have hz2 : Dz w3 w5 G2 d2 8 (St.new 8) := ⟨hD2, HZ1.out.bel.trans (hb5.mono HZ1.out.bel.size), fun i hi => ⟨by have := (hF2 i hi).1; have := HZ1.out.bel.size; omega, (hF2 i hi).2⟩⟩
      have h12 : ∀ i, G1 i → ¬ G2 i := fun i hi q => by have := (HZ1.out.inn i hi).2; have := (hF2 i q).1; omega
      have HA := Lib.hid hz1
      have HB := Lib.hid hz2
      have H12 := Lib.hid h12
      clear hD2 hb5 hF2 hz1 hz2 h12
      go_wp2_with fail
      refine (ref_new 8 8 (by omega) (by omega) w5).mono ?_
      rintro e w6 ⟨x, R, F, rfl, hrd, hb6⟩
      have hrd3 : Rd w3 w6 R F x 8 (St.new 8) := by
        obtain ⟨A, cS, P, cp, ps, h1, h2, h3⟩ := hrd
        have hl0 : ps = [] := by have := h2.hpn; cases ps with
          | nil => rfl
          | cons a l => simp [St.new, pnOf] at this
        subst hl0
        have hs35 := HB.out.bel.size
        exact ⟨A, cS, P, cp, [], h1, ⟨h2.sl, h2.own, h2.hpn, h2.hnw, (fun a ha => by cases ha), h2.fx, h2.fP, fun i hi => ⟨by have := (h2.finn i hi).1; omega, (h2.finn i hi).2⟩, fun i hi => ⟨(h2.rinn i hi).1, by have := (h2.rinn i hi).2.1; omega, (h2.rinn i hi).2.2⟩, HB.out.bel.trans (hb6.mono hs35)⟩, h3⟩
      have hlow : ∀ i, F i ∨ R i → w5.heap.size ≤ i := fun i hi => hi.elim (fun q => (hrd.finn i q).1) (fun q => (hrd.rinn i q).2.1)
      have hT : Tri w3 w6 d1 d2 x 8 (St.new 8) (St.new 8) (St.new 8) G1 G2 F R (fun _ => False) :=
        ⟨HA.out.below hb6, HB.out.below hb6, hrd3, H12.out, fun i hi => ⟨fun q => by have := (HA.out.inn i hi).2; have := hlow i (.inl q); omega, fun q => by have := (HA.out.inn i hi).2; have := hlow i (.inr q); omega⟩, fun i hi => ⟨fun q => by have := (HB.out.inn i hi).2; have := hlow i (.inl q); omega, fun q => by have := (HB.out.inn i hi).2; have := hlow i (.inr q); omega⟩, fun i hi => hi.elim⟩
      have HT0 := Lib.hid hT
      clear hrd hb6 hrd3 hlow hT
      go_wp2_with fail
      go_loopw [26] (fun i wr => ∃ k : Nat, k ≤ n ∧ i = .int .i64 k ∧ ∃ F1 F2 F R s, Tri w3 wr d1 d2 x 8 s s s F1 F2 F R (fun _ => False) ∧ s.Calm ∧ s.pn.length ≤ k) (fun i _ => n - (intOf i).toNat)
      case atStart => exact ⟨0, by omega, rfl, _, _, _, _, _, HT0.out, ⟨rfl, rfl⟩, Nat.le_refl _⟩
      case round =>
        obtain ⟨k, hk, rfl, F1, F2, F, R, s, hT, hcalm, hlen⟩ := hrel
        by_cases hlt : k < n
        · obtain ⟨a, rfl, hok, hld⟩ := acts_get HL1.out hT.a.bel (k := k) (by rw [← Hn.out]; exact hlt)
          have hnn : s.pn.length ≤ 1000000 := by omega
          generalize L[k]'(by rw [← Hn.out]; exact hlt) = ac at hok hld
          have hst := store_act wr ac
          have hld2 := load_act_new wr ac
          have hcells := act_new wr ac
          have hbn : Below wr.heap.size wr (wr.alloc (.cells ac.cells.toArray 43)) := (Below.refl _ _).alloc (Nat.le_refl _) _
          have hT2 := hT.below hbn
          have e0 : (wr.alloc (.cells ac.cells.toArray 43)).cell? ⟨wr.heap.size, 0, none⟩ = some (.int .i64 ac.kind) := by rw [cell_of_row _ _ 0 _ _ _ (heap_alloc_new wr _)]; rfl
          have hgW : wr.heap.size < (wr.alloc (.cells ac.cells.toArray 43)).heap.size := by simp
          generalize hW : wr.alloc (.cells ac.cells.toArray 43) = W at *
          have hg1 : ¬ F1 wr.heap.size := fun q => by have := (hT.a.inn _ q).2; omega
          have hg2 : ¬ F2 wr.heap.size := fun q => by have := (hT.b.inn _ q).2; omega
          have hg3 : ¬ F wr.heap.size := fun q => by have := (hT.c.finn _ q).2; omega
          have HG1 := Lib.hid hg1
          have HG2 := Lib.hid hg2
          have HG3 := Lib.hid hg3
          have HN := Lib.hid hlen
          have HC := Lib.hid hcalm
          have HT := Lib.hid hT2
          have HCL := Lib.hid hcells
          have HGW := Lib.hid hgW
          clear hW hbn hT hT2 hcalm hlen hcells hg1 hg2 hg3 hgW
          have i1 : (0 : Int) ≤ (k : Int) := by omega
          have i2 : (k : Int) < (n : Int) := by omega
          have hav : ac.val = .agg #[.int .i64 ac.kind, .int .i64 ac.at_, .slice ac.A ac.ks.length ac.c, .int .u64 (ac.p.keep : Int), .int .i64 ac.p.torn, .int .i64 ac.p.cut] := rfl
          by_cases hk0 : ac.kind = 0
          · have t0 : (ac.kind == 0) = true := by simp [hk0]
            have HK := Lib.hid hk0
            clear hk0
            go_wp2_with (first | (refine wpList_store_run rfl 43 _ _ rfl rfl _ rfl _ rfl _ hst ?_) | (refine wpList_load_run rfl 43 _ rfl _ rfl _ hld ?_) | (refine wpList_load_run rfl 43 _ rfl _ rfl _ hld2 ?_))
            refine (do_dz HT.out.a hok (by omega) hnn).mono ?_
            rintro e wa ⟨G1, rfl, hz1, hc1, he1⟩
            have hTA := HT.out.stepA hz1 hc1 he1
            have hcA : ∀ j u, ac.cells[j]? = some u → wa.cell? ((⟨wr.heap.size, 0, none⟩ : Addr).add j) = some u := fun j u hj => (World.cell?_of_block (by rw [add_block]; exact hc1.block _ HGW.out HG1.out)).trans (HCL.out j u hj)
            have hldA : (loadVar 43 ⟨wr.heap.size, 0, none⟩).run Try.prog wa = .ok ac.val wa := load_act hcA
            have hgA : wr.heap.size < wa.heap.size := Nat.lt_of_lt_of_le HGW.out hc1.size
            have HTA := Lib.hid hTA
            have HCA := Lib.hid hcA
            have HGA := Lib.hid hgA
            clear e0 hst hld hld2 hz1 hc1 he1 hTA hcA hgA
            go_wp2_with (refine wpList_load_run rfl 43 _ rfl _ rfl _ hldA ?_)
            refine (do_dz HTA.out.b hok (by omega) hnn).mono ?_
            rintro e wb ⟨G2, rfl, hz2, hc2, he2⟩
            have hTB := HTA.out.stepB hz2 hc2 he2
            have hcB : ∀ j u, ac.cells[j]? = some u → wb.cell? ((⟨wr.heap.size, 0, none⟩ : Addr).add j) = some u := fun j u hj => (World.cell?_of_block (by rw [add_block]; exact hc2.block _ HGA.out HG2.out)).trans (HCA.out j u hj)
            have hldB : (loadVar 43 ⟨wr.heap.size, 0, none⟩).run Try.prog wb = .ok ac.val wb := load_act hcB
            have HTB := Lib.hid hTB
            clear hldA hz2 hc2 he2 hTB hcB
            go_wp2_with (refine wpList_load_run rfl 43 _ rfl _ rfl _ hldB ?_)
            refine (do_ref _ _ _ _ _ _ _ _ HTB.out.c (by omega) hnn hok).mono ?_
            rintro e wc ⟨R', F', rfl, hz3, hc3, he3, hr3⟩
            have hTC := HTB.out.stepC hz3 hc3 he3 hr3
            have hac := Calm.act0 HC.out 8 ac.at_ ac.ks ac.p
            rw [← HK.out] at hac
            generalize s.act 8 ac.kind ac.at_ ac.ks ac.p = s' at hTC hac
            obtain ⟨hac1, hac2, hac3⟩ := hac
            have hlen' : s'.pn.length ≤ k + 1 := by have := HN.out; omega
            have HTC := Lib.hid hTC
            have HAC := Lib.hid hac1
            clear hldB hz3 hc3 he3 hr3 hTC hac1 hac2 hac3
            go_wp2_with fail
            exact ⟨⟨k + 1, by omega, by go_num, G1, G2, F', R', s', HTC.out, HAC.out, hlen'⟩, by simp [intOf]; omega⟩
          · have t0 : (ac.kind == 0) = false := by simp [hk0]
            clear hk0
            go_wp2_with (first | (refine wpList_store_run rfl 43 _ _ rfl rfl _ rfl _ rfl _ hst ?_) | (refine wpList_load_run rfl 43 _ rfl _ rfl _ hld ?_) | (refine wpList_load_run rfl 43 _ rfl _ rfl _ hld2 ?_))
            exact ⟨⟨k + 1, by omega, by go_num, F1, F2, F, R, s, HT.out, HC.out, by have := HN.out; omega⟩, by simp [intOf]; omega⟩
        · obtain rfl : k = n := by omega
          have hsa := hcalm.sync
          have hc1 : (s.sync).Calm := by rw [hsa]; exact hcalm
          have hnw1 : s.sync.nw = s.nw := by rw [hsa]
          have hsy1 : s.sync.sy = s.nw := by rw [hsa]
          have hpn1 : s.sync.pn.length = 0 := by rw [hsa]; rfl
          have hnn : s.pn.length ≤ 1000000 := by omega
          have HNN := Lib.hid hnn
          have HT := Lib.hid hT
          have HC1 := Lib.hid hc1
          have HNW := Lib.hid hnw1
          have HSY := Lib.hid hsy1
          have HPN := Lib.hid hpn1
          clear hsa hT hcalm hlen hc1 hnw1 hsy1 hpn1 hnn
          go_wp2_with fail
          refine (sync_dz HT.out.a (by omega)).mono ?_
          rintro e wa ⟨G1', rfl, hz1, hk1, he1⟩
          have hTA := HT.out.stepA hz1 hk1 he1
          have HTA := Lib.hid hTA
          clear hz1 hk1 he1 hTA
          go_wp2_with fail
          refine (sync_dz HTA.out.b (by omega)).mono ?_
          rintro e wb ⟨G2', rfl, hz2, hk2, he2⟩
          have hTB := HTA.out.stepB hz2 hk2 he2
          have HTB := Lib.hid hTB
          clear hz2 hk2 he2 hTB
          have hok1 : Ac.Ok w3 ⟨1, 0, none, 0, ⟨0, 0, 0⟩, []⟩ := ⟨by simp, by simp, by simp, by simp, by simp, by simp, by simp, by simp, fun _ => rfl, ⟨(fun u hu => by cases hu), fun q => by simp at q⟩⟩
          have hdo := do_ref w3 wb R F x 8 s ⟨1, 0, none, 0, ⟨0, 0, 0⟩, []⟩ HTB.out.c (by omega) HNN.out hok1
          have hav1 : Ac.val ⟨1, 0, none, 0, ⟨0, 0, 0⟩, []⟩ = .agg #[.int .i64 1, .int .i64 0, .slice none 0 0, .int .u64 0, .int .i64 0, .int .i64 0] := rfl
          rw [hav1] at hdo
          clear hav1 hok1
          go_wp2_with fail
          refine hdo.mono ?_
          clear hdo
          rintro e wc ⟨R', F', rfl, hz3, hk3, he3, hr3⟩
          have hTC : Tri w3 wc d1 d2 x 8 s.sync s.sync s.sync G1' G2' F' R' (fun _ => False) := HTB.out.stepC hz3 hk3 he3 hr3
          have HTC := Lib.hid hTC
          clear hz3 hk3 he3 hr3 hTC
          have hnow := now_rd HTC.out.c (by omega) (by rw [HPN.out]; omega)
          go_wp2_with fail
          refine hnow.mono ?_
          clear hnow
          rintro e wd ⟨A8, c8, rfl, hrw, hbd⟩
          have hT0 := HTC.out.below hbd
          have hTQ : Tri w3 wd d1 d2 x 8 s.sync s.sync s.sync G1' G2' F' R' (fun i => R' i ∨ (wc.heap.size ≤ i ∧ i < wd.heap.size)) :=
            ⟨hT0.a, hT0.b, hT0.c, hT0.d12, hT0.d1x, hT0.d2x, fun i hi => by
              have hT1 := HTC.out
              have hbs := hbd.size
              rcases hi with hi | hi
              · exact ⟨fun q => (hT1.d1x i q).2 hi, fun q => (hT1.d2x i q).2 hi, (hT1.c.rinn i hi).1, by have := (hT1.c.rinn i hi).2.2; omega⟩
              · exact ⟨fun q => by have := (hT1.a.inn i q).2; omega, fun q => by have := (hT1.b.inn i q).2; omega, fun q => by have := (hT1.c.finn i q).2; omega, hi.2⟩⟩
          rw [HNW.out] at hrw
          obtain ⟨Q, hQ⟩ : ∃ Q : Nat → Prop, Q = (fun i => R' i ∨ (wc.heap.size ≤ i ∧ i < wd.heap.size)) := ⟨_, rfl⟩
          rw [← hQ] at hTQ hrw
          have HTQ := Lib.hid hTQ
          have HRW := Lib.hid hrw
          clear hQ hT0 hTQ hrw hbd
          generalize s.nw = sy0 at HRW HSY
          go_wp2_with fail
          go_loopw [54] (fun i wr => ∃ k : Nat, k ≤ m ∧ i = .int .i64 k ∧ ∃ F1 F2 F R s, Tri w3 wr d1 d2 x 8 s s s F1 F2 F R Q ∧ s.Calm ∧ s.pn.length ≤ k ∧ s.sy = sy0 ∧ Rw wr Q A8 8 sy0) (fun i _ => m - (intOf i).toNat)
          case atStart => exact ⟨0, by omega, rfl, _, _, _, _, _, HTQ.out, HC1.out, Nat.le_of_eq HPN.out, HSY.out, HRW.out⟩
          case round =>
            obtain ⟨k, hk, rfl, F1, F2, F, R, s, hT, hcalm, hlen, hsy, hwas⟩ := hrel
            by_cases hlt : k < m
            · obtain ⟨a, rfl, hok, hld⟩ := acts_get HM1.out hT.a.bel (k := k) (by rw [← Hm.out]; exact hlt)
              have hnn : s.pn.length ≤ 1000000 := by omega
              generalize M[k]'(by rw [← Hm.out]; exact hlt) = ac at hok hld
              have hst := store_act wr ac
              have hld2 := load_act_new wr ac
              have hcells := act_new wr ac
              have hbn : Below wr.heap.size wr (wr.alloc (.cells ac.cells.toArray 43)) := (Below.refl _ _).alloc (Nat.le_refl _) _
              have hT2 := hT.below hbn
              have e0 : (wr.alloc (.cells ac.cells.toArray 43)).cell? ⟨wr.heap.size, 0, none⟩ = some (.int .i64 ac.kind) := by rw [cell_of_row _ _ 0 _ _ _ (heap_alloc_new wr _)]; rfl
              have hgW : wr.heap.size < (wr.alloc (.cells ac.cells.toArray 43)).heap.size := by simp
              have hwas2 := hwas.below hbn
              generalize hW : wr.alloc (.cells ac.cells.toArray 43) = W at *
              have hg1 : ¬ F1 wr.heap.size := fun q => by have := (hT.a.inn _ q).2; omega
              have hg2 : ¬ F2 wr.heap.size := fun q => by have := (hT.b.inn _ q).2; omega
              have hg3 : ¬ F wr.heap.size := fun q => by have := (hT.c.finn _ q).2; omega
              have HG1 := Lib.hid hg1
              have HG2 := Lib.hid hg2
              have HG3 := Lib.hid hg3
              have HN := Lib.hid hlen
              have HC := Lib.hid hcalm
              have HT := Lib.hid hT2
              have HCL := Lib.hid hcells
              have HGW := Lib.hid hgW
              have HW := Lib.hid hwas2
              have HSY := Lib.hid hsy
              clear hwas hwas2 hsy
              clear hW hbn hT hT2 hcalm hlen hcells hg1 hg2 hg3 hgW
              have i1 : (0 : Int) ≤ (k : Int) := by omega
              have i2 : (k : Int) < (m : Int) := by omega
              have hav : ac.val = .agg #[.int .i64 ac.kind, .int .i64 ac.at_, .slice ac.A ac.ks.length ac.c, .int .u64 (ac.p.keep : Int), .int .i64 ac.p.torn, .int .i64 ac.p.cut] := rfl
              by_cases hk0 : ac.kind = 0
              · have t0 : (ac.kind == 0) = true := by simp [hk0]
                have HK := Lib.hid hk0
                clear hk0
                go_wp2_with (first | (refine wpList_store_run rfl 43 _ _ rfl rfl _ rfl _ rfl _ hst ?_) | (refine wpList_load_run rfl 43 _ rfl _ rfl _ hld ?_) | (refine wpList_load_run rfl 43 _ rfl _ rfl _ hld2 ?_))
                refine (do_dz HT.out.a hok (by omega) hnn).mono ?_
                rintro e wa ⟨G1, rfl, hz1, hc1, he1⟩
                have hTA := HT.out.stepA hz1 hc1 he1
                have hcA : ∀ j u, ac.cells[j]? = some u → wa.cell? ((⟨wr.heap.size, 0, none⟩ : Addr).add j) = some u := fun j u hj => (World.cell?_of_block (by rw [add_block]; exact hc1.block _ HGW.out HG1.out)).trans (HCL.out j u hj)
                have hldA : (loadVar 43 ⟨wr.heap.size, 0, none⟩).run Try.prog wa = .ok ac.val wa := load_act hcA
                have hgA : wr.heap.size < wa.heap.size := Nat.lt_of_lt_of_le HGW.out hc1.size
                have hwA := HW.out.chg hc1 (fun i hi => (HT.out.q i hi).1)
                have HWA := Lib.hid hwA
                clear hwA
                have HTA := Lib.hid hTA
                have HCA := Lib.hid hcA
                have HGA := Lib.hid hgA
                clear e0 hst hld hld2 hz1 hc1 he1 hTA hcA hgA
                go_wp2_with (refine wpList_load_run rfl 43 _ rfl _ rfl _ hldA ?_)
                refine (do_dz HTA.out.b hok (by omega) hnn).mono ?_
                rintro e wb ⟨G2, rfl, hz2, hc2, he2⟩
                have hTB := HTA.out.stepB hz2 hc2 he2
                have hcB : ∀ j u, ac.cells[j]? = some u → wb.cell? ((⟨wr.heap.size, 0, none⟩ : Addr).add j) = some u := fun j u hj => (World.cell?_of_block (by rw [add_block]; exact hc2.block _ HGA.out HG2.out)).trans (HCA.out j u hj)
                have hldB : (loadVar 43 ⟨wr.heap.size, 0, none⟩).run Try.prog wb = .ok ac.val wb := load_act hcB
                have hwB := HWA.out.chg hc2 (fun i hi => (HTA.out.q i hi).2.1)
                have HWB := Lib.hid hwB
                clear hwB
                have HTB := Lib.hid hTB
                clear hldA hz2 hc2 he2 hTB hcB
                go_wp2_with (refine wpList_load_run rfl 43 _ rfl _ rfl _ hldB ?_)
                refine (do_ref _ _ _ _ _ _ _ _ HTB.out.c (by omega) hnn hok).mono ?_
                rintro e wc ⟨R', F', rfl, hz3, hc3, he3, hr3⟩
                have hTC := HTB.out.stepC hz3 hc3 he3 hr3
                have hac := Calm.act0 HC.out 8 ac.at_ ac.ks ac.p
                rw [← HK.out] at hac
                have hwC := HWB.out.chg hc3 (fun i hi => (HTB.out.q i hi).2.2.1)
                have HWC := Lib.hid hwC
                clear hwC
                generalize s.act 8 ac.kind ac.at_ ac.ks ac.p = s' at hTC hac
                obtain ⟨hac1, hac2, hac3⟩ := hac
                have hlen' : s'.pn.length ≤ k + 1 := by have := HN.out; omega
                have HSY2 := Lib.hid (hac3.trans HSY.out)
                have HTC := Lib.hid hTC
                have HAC := Lib.hid hac1
                clear hldB hz3 hc3 he3 hr3 hTC hac1 hac2 hac3
                go_wp2_with fail
                exact ⟨⟨k + 1, by omega, by go_num, G1, G2, F', R', s', HTC.out, HAC.out, hlen', HSY2.out, HWC.out⟩, by simp [intOf]; omega⟩
              · have t0 : (ac.kind == 0) = false := by simp [hk0]
                clear hk0
                go_wp2_with (first | (refine wpList_store_run rfl 43 _ _ rfl rfl _ rfl _ rfl _ hst ?_) | (refine wpList_load_run rfl 43 _ rfl _ rfl _ hld ?_) | (refine wpList_load_run rfl 43 _ rfl _ rfl _ hld2 ?_))
                exact ⟨⟨k + 1, by omega, by go_num, F1, F2, F, R, s, HT.out, HC.out, by have := HN.out; omega, HSY.out, HW.out⟩, by simp [intOf]; omega⟩
            · obtain rfl : k = m := by omega
              have hok := hT.a.dk.ok
              have hpl : ∀ q ∈ s.pn, q.2.length = 64 := fun q hq => (hok.pl q hq).2.1
              have hnw : s.nw = nowOf s.pn s.sy := by
                obtain ⟨_, _, _, _, _, _, h2, _⟩ := hT.c
                exact h2.hnw
              have hall : (s.crash allP).nw = s.nw := by
                show crashTo allP s.pn s.sy s.pn.length = _
                rw [crashTo_all allP hpl allP_left _ (Nat.le_refl _), hnw]; rfl
              have hnone : (s.crash noneP).nw = sy0 := by
                show crashTo noneP s.pn s.sy s.pn.length = _
                rw [crashTo_none noneP noneP_left, hsy]
              have hnn : s.pn.length ≤ 1000000 := by omega
              have HALL := Lib.hid hall
              have HNONE := Lib.hid hnone
              have HN2 := Lib.hid hnn
              have HT2 := Lib.hid hT
              have HW2 := Lib.hid hwas
              clear hok hpl hnw hall hnone hnn hT hwas hsy hcalm hlen
              have hcr1 := crash_dz allP HT2.out.a (by omega) HN2.out (by decide)
              rw [show allP.val = .agg #[.int .u64 18446744073709551615, .int .i64 (-1), .int .i64 0] from rfl] at hcr1
              go_wp2_with fail
              refine hcr1.mono ?_
              clear hcr1
              rintro e wx ⟨H1, rfl, hz1, hk1, he1⟩
              have hTX := HT2.out.stepA hz1 hk1 he1
              have hwX := HW2.out.chg hk1 (fun i hi => (HT2.out.q i hi).1)
              have HTX := Lib.hid hTX
              have HWX := Lib.hid hwX
              clear hz1 hk1 he1 hTX hwX
              have hcr2 := crash_dz noneP HTX.out.b (by omega) HN2.out (by decide)
              rw [show noneP.val = .agg #[.int .u64 0, .int .i64 (-1), .int .i64 0] from rfl] at hcr2
              go_wp2_with fail
              refine hcr2.mono ?_
              clear hcr2
              rintro e wy ⟨H2, rfl, hz2, hk2, he2⟩
              have hTY := HTX.out.stepB hz2 hk2 he2
              have hwY := HWX.out.chg hk2 (fun i hi => (HTX.out.q i hi).2.1)
              have HTY := Lib.hid hTY
              have HWY := Lib.hid hwY
              clear hz2 hk2 he2 hTY hwY
              have hnow := now_rd HTY.out.c (by omega) HN2.out
              go_wp2_with fail
              refine hnow.mono ?_
              clear hnow
              rintro e wz ⟨A9, c9, rfl, hrw9, hbz⟩
              have hTZ := HTY.out.below hbz
              have hwZ := HWY.out.below hbz
              have HTZ := Lib.hid hTZ
              have HWZ := Lib.hid hwZ
              rw [← HALL.out] at hrw9
              have hsm := law_same _ _ d1 8 c9 A9 (s.crash allP) wz HTZ.out.a.dk hrw9 (by omega)
              clear hTZ hwZ hrw9 hbz
              go_wp2_with fail
              refine hsm.mono ?_
              clear hsm
              rintro e wu ⟨rfl, hbu⟩
              have hTU := HTZ.out.below hbu
              have hwU := HWZ.out.below hbu
              rw [← HNONE.out] at hwU
              have hsm2 := law_same _ _ d2 8 c8 A8 (s.crash noneP) wu hTU.b.dk hwU (by omega)
              have HTU := Lib.hid hTU
              clear hTU hwU hbu
              go_wp2_with fail
              refine hsm2.mono ?_
              clear hsm2
              rintro e wv ⟨rfl, hbv⟩
              have hbel := hb1.trans ((HTU.out.a.bel.trans (hbv.mono HTU.out.a.bel.size)).mono hb1.size)
              have HBEL := Lib.hid hbel
              clear hbv hbel
              go_wp2_with fail
              go_ret
              exact ⟨rfl, HBEL.out⟩
theorem DiskAll_walk {w : World} (A : Option Addr) (cA : Nat) (L : List Ac) (hL : Acts w A L) (B : Option Addr) (cB : Nat) (M : List Ac) (hM : Acts w B M) :
    Calls Try.prog 6 #[.slice A L.length cA, .slice B M.length cB] w fun e w' => e = .returned (.bool true) ∧ Below w.heap.size w w' :=
  DiskAll_go A cA L B cB M w hL hM
end Go.Proofs.Ytomihbanpjedeaa
