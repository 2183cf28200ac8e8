/- The law DiskFuse, whatever comes in: the walk. -/
import Derived.Test.YtomihbanpjedeaaDiskFuse
namespace Go.Proofs.Ytomihbanpjedeaa
open Go.RowKit
set_option linter.unusedSimpArgs false
set_option maxHeartbeats 4000000 in
set_option maxRecDepth 100000 in
theorem DiskFuse_go (b : UInt8) (A : Option Addr) (cA : Nat) (L : List Ac) (w : World) (hL : Acts w A L) :
    Calls Try.prog 5 #[.int .u8 (b.toNat : Int), .slice A L.length cA] w fun e w' => e = .returned (.bool true) ∧ Below w.heap.size w w' := by
  have hlo := long_calls A cA L
  obtain ⟨n, hn⟩ : ∃ n, n = L.length := ⟨_, rfl⟩
  have Hn := Lib.hid hn
  rw [← hn]
  rw [← hn] at hlo
  clear hn
  have HL := Lib.hid hL
  clear hL
  have hbd : b.toNat < 256 := b.toNat_lt
  obtain ⟨z, hz⟩ : ∃ z : Nat, z = b.toNat := ⟨_, rfl⟩
  rw [← hz] at hbd ⊢
  clear hz
  go_enter Try.func5, Try.ntmps5
  go_wp2_with fail
  refine (disk_wakes _).mono ?_
  rintro e w1 ⟨rfl, hb1⟩
  have hL1 := HL.out.below hb1
  have HL1 := Lib.hid hL1
  have q1 := hlo w1 hL1
  clear hlo hL1 HL
  go_wp2_with fail
  refine q1.mono ?_
  clear q1
  rintro e w3 ⟨bb, rfl, rfl, hbL⟩
  cases bb with
  | true =>
    go_wp2_with fail
    go_ret
    exact ⟨rfl, hb1⟩
  | false =>
    have hb5 := hbL rfl
    have hn1 : n ≤ 100 := by have := hb5.1; have := Hn.out; omega
    clear hbL hb5
    go_wp2_with fail
    refine (disk_new_calls 8 8 (by omega) (by omega) w3).mono ?_
    rintro e w4 ⟨d, F0, rfl, hD0, hb4, hF0⟩
    have hz0 : Dz w3 w4 F0 d 8 (St.new 8) := ⟨hD0, hb4, hF0⟩
    have HZ0 := Lib.hid hz0
    clear hD0 hb4 hF0 hz0
    go_wp2_with fail
    obtain ⟨f, hf⟩ : ∃ f : Int, f = (z : Int) % 20 := ⟨_, rfl⟩
    have hf1 : 0 ≤ f ∧ f < 20 := by omega
    rw [← hf]
    refine (fuse_calls F0 d 8 _ f w4 HZ0.out.dk (by omega)).mono ?_
    rintro e w5 ⟨rfl, hdk5, hch5⟩
    have hz5 := HZ0.out.step hdk5 hch5 (Ext.same _ _ _)
    have HZ5 := Lib.hid hz5
    clear hdk5 hch5 hz5
    go_wp2_with fail
    go_loopw [6, 26] (fun dv i wr => ∃ k : Nat, k ≤ n ∧ i = .int .i64 k ∧ ∃ F s dn, dv = .int .i64 dn ∧ 0 ≤ dn ∧ Dz w3 wr F d 8 s ∧ s.Fus dn f ∧ s.pn.length ≤ k) (fun _ i _ => n - (intOf i).toNat)
    case atStart => exact ⟨0, by omega, rfl, F0, _, 0, rfl, Int.le_refl _, HZ5.out, fus_new f (by omega), Nat.le_refl _⟩
    case round =>
      obtain ⟨k, hk, rfl, F, s, dn, rfl, h0d, hz, hfus, hlen⟩ := hrel
      by_cases hlt : k < n
      · obtain ⟨a, rfl, hok, hld⟩ := acts_get HL1.out hz.bel (k := k) (by rw [← Hn.out]; exact hlt)
        have hnn : s.pn.length ≤ 1000000 := by omega
        have HN := Lib.hid hlen
        generalize L[k]'(by rw [← Hn.out]; exact hlt) = ac at hok hld
        have hst := store_act wr ac
        have hld2 := load_act_new wr ac
        have hcells := act_new wr ac
        have hbn : Below wr.heap.size wr (wr.alloc (.cells ac.cells.toArray 43)) := (Below.refl _ _).alloc (Nat.le_refl _) _
        have hz2 := hz.below hbn
        have e0 : (wr.alloc (.cells ac.cells.toArray 43)).cell? ⟨wr.heap.size, 0, none⟩ = some (.int .i64 ac.kind) := by rw [cell_of_row _ _ 0 _ _ _ (heap_alloc_new wr _)]; rfl
        have HZ2 := Lib.hid hz2
        have HF := Lib.hid hfus

        generalize hW : wr.alloc (.cells ac.cells.toArray 43) = W at *
        clear hW hbn hz hlen hz2
        have i1 : (0 : Int) ≤ (k : Int) := by omega
        have i2 : (k : Int) < (n : Int) := by omega
        have hdn : 0 ≤ 20 - dn := by have := hfus.pos; have := hfus.sum; omega
        have hdn0 : 0 ≤ dn := h0d
        have HCL := Lib.hid hcells
        clear hcells
        have hav : ac.val = .agg #[.int .i64 ac.kind, .int .i64 ac.at_, .slice ac.A ac.ks.length ac.c, .int .u64 (ac.p.keep : Int), .int .i64 ac.p.torn, .int .i64 ac.p.cut] := rfl
        clear hfus
        by_cases hk0 : ac.kind = 0
        · have t0 : (ac.kind != 0) = false := by simp [hk0]
          have HK := Lib.hid hk0
          clear hk0
          go_wp2_with (first | (refine wpList_store_run rfl 43 _ _ rfl rfl _ rfl _ rfl _ hst ?_) | (refine wpList_load_run rfl 43 _ rfl _ rfl _ hld ?_))
          have hrdA := read_dz HZ2.out (k := 0) (by omega) (by omega)
          rw [show ((0 : Nat) : Int) = 0 from rfl] at hrdA
          refine hrdA.mono ?_
          rintro e wa ⟨rfl, hbtA, hbA, hzA, hsA⟩
          have hldA : (loadVar 43 ⟨wr.heap.size, 0, none⟩).run Try.prog wa = .ok ac.val wa := load_act fun j u hj => pw_cell_below hbA (HCL.out j u hj)
          have hdo := do_dz hzA hok (by omega) hnn
          have hg1 := Lib.hid (show ¬ F W.heap.size from fun q => by have := (HZ2.out.inn _ q).2; omega)
          have HTA := Lib.hid hbtA
          have HWL := Lib.hid (sec_length HZ2.out.dk.ok.nl (show 0 < 8 by omega))
          clear hrdA hzA hbtA hbA e0 hst hld hld2
          go_wp2_with (refine wpList_load_run rfl 43 _ rfl _ rfl _ hldA ?_)
          refine hdo.mono ?_
          rintro e wb ⟨F', rfl, hz', hch, hex⟩
          have hfa := fus_act HF.out 8 ac.kind ac.at_ ac.ks ac.p (.inl HK.out)
          generalize s.act 8 ac.kind ac.at_ ac.ks ac.p = s' at hz' hfa
          generalize s.actE 8 ac.kind ac.at_ ac.ks.length = ev at hfa ⊢
          obtain ⟨hl', hfa⟩ := hfa
          have hlen' : s'.pn.length ≤ k + 1 := by have := HN.out; omega
          have hbtB := HTA.out.kept (hch.block W.heap.size hsA hg1.out)
          have hrdB := read_dz hz' (k := 0) (by omega) (by omega)
          rw [show ((0 : Nat) : Int) = 0 from rfl] at hrdB
          have HTB := Lib.hid hbtB
          have hgb : W.heap.size < wb.heap.size := by have := hch.size; omega
          have HFA := Lib.hid hfa
          clear hdo hldA hch hex hbtB hz' hl' hfa
          go_wp2_with fail
          refine hrdB.mono ?_
          clear hrdB
          rintro e wc ⟨rfl, hbtC, hbC, hzC, hsC⟩
          have hbtD := HTB.out.below hbC
          have hdc := down_calls F' d 8 s' wc hzC.dk
          have HZC := Lib.hid hzC
          have HTC := Lib.hid hbtC
          have HTD := Lib.hid hbtD
          clear hbtC hbC hzC hbtD
          rcases HFA.out with ⟨rfl, hf', hd'⟩ | ⟨rfl, hf', hd', hnw⟩ | ⟨h34, hf', hnw⟩
          · rw [hd'] at hdc
            have HF' := Lib.hid hf'
            clear hf' hd'
            go_wp2_with fail
            refine hdc.mono ?_
            rintro e wd ⟨rfl, rfl⟩
            clear hdc
            go_wp2_with fail
            exact ⟨⟨k + 1, by omega, by go_num, F', s', dn + 1, by go_num, by omega, HZC.out, HF'.out, hlen'⟩, by simp [intOf]; omega⟩
          · rw [hd'] at hdc
            have hsame := same_bytes _ _ 64 64 64 (sec s.nw 0) wc HTD.out (by have := HTC.out; rwa [hnw] at this) HWL.out (by omega)
            have HF' := Lib.hid hf'
            have HD' := Lib.hid hd'
            clear hf' hd' hnw
            go_wp2_with fail
            refine hsame.mono ?_
            rintro e wd ⟨rfl, q, rfl⟩
            have hdc2 := down_calls F' d 8 s' (wc.drewN q) (HZC.out.dk.below ⟨rfl, rfl, rfl, Nat.le_refl _, fun _ _ => rfl⟩)
            rw [HD'.out] at hdc2
            have hz9 := HZC.out.below (w1 := wc.drewN q) ⟨rfl, rfl, rfl, Nat.le_refl _, fun _ _ => rfl⟩
            have HZ9 := Lib.hid hz9
            clear hdc hsame hz9
            go_wp2_with fail
            refine hdc2.mono ?_
            rintro e wd ⟨rfl, rfl⟩
            clear hdc2
            go_wp2_with fail
            exact ⟨⟨k + 1, by omega, by go_num, F', s', dn, rfl, hdn0, HZ9.out, HF'.out, hlen'⟩, by simp [intOf]; omega⟩
          · have hsame := same_bytes _ _ 64 64 64 (sec s.nw 0) wc HTD.out (by have := HTC.out; rwa [hnw] at this) HWL.out (by omega)
            have HF' := Lib.hid hf'
            have h1 : (ev == 0) = false := by rcases h34 with rfl | rfl <;> rfl
            have h2 : (ev == 13) = false := by rcases h34 with rfl | rfl <;> rfl
            have H34 := Lib.hid h34
            clear hf' hnw hdc h34
            go_wp2_with fail
            refine hsame.mono ?_
            rintro e wd ⟨rfl, q, rfl⟩
            have hdc2 := down_calls F' d 8 s' (wc.drewN q) (HZC.out.dk.below ⟨rfl, rfl, rfl, Nat.le_refl _, fun _ _ => rfl⟩)
            have hz9 := HZC.out.below (w1 := wc.drewN q) ⟨rfl, rfl, rfl, Nat.le_refl _, fun _ _ => rfl⟩
            have HZ9 := Lib.hid hz9
            clear hsame hz9
            go_wp2_with fail
            refine hdc2.mono ?_
            rintro e wd ⟨rfl, rfl⟩
            clear hdc2
            cases hsd : s'.dn with
            | false =>
              clear hsd
              go_wp2_with fail
              exact ⟨⟨k + 1, by omega, by go_num, F', s', dn, rfl, hdn0, HZ9.out, HF'.out, hlen'⟩, by simp [intOf]; omega⟩
            | true =>
              clear hsd
              rcases H34.out with rfl | rfl
              · clear h1 h2
                go_wp2_with fail
                exact ⟨⟨k + 1, by omega, by go_num, F', s', dn, rfl, hdn0, HZ9.out, HF'.out, hlen'⟩, by simp [intOf]; omega⟩
              · clear h1 h2
                go_wp2_with fail
                exact ⟨⟨k + 1, by omega, by go_num, F', s', dn, rfl, hdn0, HZ9.out, HF'.out, hlen'⟩, by simp [intOf]; omega⟩
        · have t0 : (ac.kind != 0) = true := by simp [hk0]
          by_cases hk1 : ac.kind = 1
          · have t1 : (ac.kind != 1) = false := by simp [hk1]
            have HK := Lib.hid hk1
            clear hk0 hk1
            go_wp2_with (first | (refine wpList_store_run rfl 43 _ _ rfl rfl _ rfl _ rfl _ hst ?_) | (refine wpList_load_run rfl 43 _ rfl _ rfl _ hld ?_))
            have hrdA := read_dz HZ2.out (k := 0) (by omega) (by omega)
            rw [show ((0 : Nat) : Int) = 0 from rfl] at hrdA
            refine hrdA.mono ?_
            rintro e wa ⟨rfl, hbtA, hbA, hzA, hsA⟩
            have hldA : (loadVar 43 ⟨wr.heap.size, 0, none⟩).run Try.prog wa = .ok ac.val wa := load_act fun j u hj => pw_cell_below hbA (HCL.out j u hj)
            have hdo := do_dz hzA hok (by omega) hnn
            have hg1 := Lib.hid (show ¬ F W.heap.size from fun q => by have := (HZ2.out.inn _ q).2; omega)
            have HTA := Lib.hid hbtA
            have HWL := Lib.hid (sec_length HZ2.out.dk.ok.nl (show 0 < 8 by omega))
            clear hrdA hzA hbtA hbA e0 hst hld hld2
            go_wp2_with (refine wpList_load_run rfl 43 _ rfl _ rfl _ hldA ?_)
            refine hdo.mono ?_
            rintro e wb ⟨F', rfl, hz', hch, hex⟩
            have hfa := fus_act HF.out 8 ac.kind ac.at_ ac.ks ac.p (.inr HK.out)
            generalize s.act 8 ac.kind ac.at_ ac.ks ac.p = s' at hz' hfa
            generalize s.actE 8 ac.kind ac.at_ ac.ks.length = ev at hfa ⊢
            obtain ⟨hl', hfa⟩ := hfa
            have hlen' : s'.pn.length ≤ k + 1 := by have := HN.out; omega
            have hbtB := HTA.out.kept (hch.block W.heap.size hsA hg1.out)
            have hrdB := read_dz hz' (k := 0) (by omega) (by omega)
            rw [show ((0 : Nat) : Int) = 0 from rfl] at hrdB
            have HTB := Lib.hid hbtB
            have hgb : W.heap.size < wb.heap.size := by have := hch.size; omega
            have HFA := Lib.hid hfa
            clear hdo hldA hch hex hbtB hz' hl' hfa
            go_wp2_with fail
            refine hrdB.mono ?_
            clear hrdB
            rintro e wc ⟨rfl, hbtC, hbC, hzC, hsC⟩
            have hbtD := HTB.out.below hbC
            have hdc := down_calls F' d 8 s' wc hzC.dk
            have HZC := Lib.hid hzC
            have HTC := Lib.hid hbtC
            have HTD := Lib.hid hbtD
            clear hbtC hbC hzC hbtD
            rcases HFA.out with ⟨rfl, hf', hd'⟩ | ⟨rfl, hf', hd', hnw⟩ | ⟨h34, hf', hnw⟩
            · rw [hd'] at hdc
              have HF' := Lib.hid hf'
              clear hf' hd'
              go_wp2_with fail
              refine hdc.mono ?_
              rintro e wd ⟨rfl, rfl⟩
              clear hdc
              go_wp2_with fail
              exact ⟨⟨k + 1, by omega, by go_num, F', s', dn + 1, by go_num, by omega, HZC.out, HF'.out, hlen'⟩, by simp [intOf]; omega⟩
            · rw [hd'] at hdc
              have hsame := same_bytes _ _ 64 64 64 (sec s.nw 0) wc HTD.out (by have := HTC.out; rwa [hnw] at this) HWL.out (by omega)
              have HF' := Lib.hid hf'
              have HD' := Lib.hid hd'
              clear hf' hd' hnw
              go_wp2_with fail
              refine hsame.mono ?_
              rintro e wd ⟨rfl, q, rfl⟩
              have hdc2 := down_calls F' d 8 s' (wc.drewN q) (HZC.out.dk.below ⟨rfl, rfl, rfl, Nat.le_refl _, fun _ _ => rfl⟩)
              rw [HD'.out] at hdc2
              have hz9 := HZC.out.below (w1 := wc.drewN q) ⟨rfl, rfl, rfl, Nat.le_refl _, fun _ _ => rfl⟩
              have HZ9 := Lib.hid hz9
              clear hdc hsame hz9
              go_wp2_with fail
              refine hdc2.mono ?_
              rintro e wd ⟨rfl, rfl⟩
              clear hdc2
              go_wp2_with fail
              exact ⟨⟨k + 1, by omega, by go_num, F', s', dn, rfl, hdn0, HZ9.out, HF'.out, hlen'⟩, by simp [intOf]; omega⟩
            · have hsame := same_bytes _ _ 64 64 64 (sec s.nw 0) wc HTD.out (by have := HTC.out; rwa [hnw] at this) HWL.out (by omega)
              have HF' := Lib.hid hf'
              have h1 : (ev == 0) = false := by rcases h34 with rfl | rfl <;> rfl
              have h2 : (ev == 13) = false := by rcases h34 with rfl | rfl <;> rfl
              have H34 := Lib.hid h34
              clear hf' hnw hdc h34
              go_wp2_with fail
              refine hsame.mono ?_
              rintro e wd ⟨rfl, q, rfl⟩
              have hdc2 := down_calls F' d 8 s' (wc.drewN q) (HZC.out.dk.below ⟨rfl, rfl, rfl, Nat.le_refl _, fun _ _ => rfl⟩)
              have hz9 := HZC.out.below (w1 := wc.drewN q) ⟨rfl, rfl, rfl, Nat.le_refl _, fun _ _ => rfl⟩
              have HZ9 := Lib.hid hz9
              clear hsame hz9
              go_wp2_with fail
              refine hdc2.mono ?_
              rintro e wd ⟨rfl, rfl⟩
              clear hdc2
              cases hsd : s'.dn with
              | false =>
                clear hsd
                go_wp2_with fail
                exact ⟨⟨k + 1, by omega, by go_num, F', s', dn, rfl, hdn0, HZ9.out, HF'.out, hlen'⟩, by simp [intOf]; omega⟩
              | true =>
                clear hsd
                rcases H34.out with rfl | rfl
                · clear h1 h2
                  go_wp2_with fail
                  exact ⟨⟨k + 1, by omega, by go_num, F', s', dn, rfl, hdn0, HZ9.out, HF'.out, hlen'⟩, by simp [intOf]; omega⟩
                · clear h1 h2
                  go_wp2_with fail
                  exact ⟨⟨k + 1, by omega, by go_num, F', s', dn, rfl, hdn0, HZ9.out, HF'.out, hlen'⟩, by simp [intOf]; omega⟩
          · have t1 : (ac.kind != 1) = true := by simp [hk1]
            clear hk0 hk1
            go_wp2_with (first | (refine wpList_store_run rfl 43 _ _ rfl rfl _ rfl _ rfl _ hst ?_) | (refine wpList_load_run rfl 43 _ rfl _ rfl _ hld ?_))
            exact ⟨⟨k + 1, by omega, by go_num, F, s, dn, rfl, hdn0, HZ2.out, HF.out, by have := HN.out; omega⟩, by simp [intOf]; omega⟩
      · obtain rfl : k = n := by omega
        have hcd := down_calls F d 8 s wr hz.dk
        have hbel := hb1.trans (hz.bel.mono hb1.size)
        have t1 : dn ≤ f := by have := hfus.pos; have := hfus.sum; omega
        have hd0 := hfus.dn
        have hsum := hfus.sum
        have HB := Lib.hid hbel
        clear hz hfus hlen hbel
        cases hsd : s.dn with
        | false =>
          rw [hsd] at hcd
          have t2 : decide (dn ≤ (z : Int) % 20) = true := by simp; omega
          clear hsd hd0
          go_wp2_with fail
          refine hcd.mono ?_
          rintro e w9 ⟨rfl, rfl⟩
          clear hcd
          go_wp2_with fail
          go_ret
          exact ⟨rfl, HB.out⟩
        | true =>
          rw [hsd] at hcd
          have t2 : decide (dn ≤ (z : Int) % 20) = true := by simp; omega
          have t3 : (dn == (z : Int) % 20) = true := by have := hd0 hsd; simp; omega
          clear hsd hd0
          go_wp2_with fail
          refine hcd.mono ?_
          rintro e w9 ⟨rfl, rfl⟩
          clear hcd
          go_wp2_with fail
          go_ret
          exact ⟨rfl, HB.out⟩
section
open Go.ChangeShapes Go.WideShapes Go.Joins
theorem u8_of {n : Int} (h : (Go.Lit.int .u8 n).wf = true) : ∃ x : UInt8, n = (x.toNat : Int) := by
  have hb := bounds_u8 h
  refine ⟨UInt8.ofNat n.toNat, ?_⟩
  rw [UInt8.toNat_ofNat_of_lt' (by show n.toNat < 256; omega)]
  omega
end
theorem DiskFuse_walk {w : World} (b : UInt8) (A : Option Addr) (cA : Nat) (L : List Ac) (hL : Acts w A L) :
    Calls Try.prog 5 #[.int .u8 (b.toNat : Int), .slice A L.length cA] w fun e w' => e = .returned (.bool true) ∧ Below w.heap.size w w' :=
  DiskFuse_go b A cA L w hL
end Go.Proofs.Ytomihbanpjedeaa
