/- The law DiskSynced, whatever comes in: the walk. -/
import Derived.Test.YtomihbanpjedeaaDiskSynced
namespace Go.Proofs.Ytomihbanpjedeaa
open Go.RowKit
set_option linter.unusedSimpArgs false
theorem St.Three.le {s : St} {k : Nat} {want : List Value} (h : s.Three k want) : s.Three (k + 1) want := ⟨h.calm, by have := h.len; omega, h.want, h.other⟩
theorem bool_swap {w w1 : World} {e : Ending} (hb : Below w.heap.size w w1) (h : e = .returned (.bool true)) : e = .returned (.bool true) ∧ Below w.heap.size w w1 := ⟨h, hb⟩
set_option maxHeartbeats 4000000 in
set_option maxRecDepth 100000 in
theorem DiskSynced_go (A : Option Addr) (cA : Nat) (L : List Ac) (B : Option Addr) (cB : Nat) (M : List Ac) (p : Pl) (w : World) (hL : Acts w A L) (hM : Acts w B M) (hkeep : p.keep < 18446744073709551616) :
    Calls Try.prog 4 #[.slice A L.length cA, .slice B M.length cB, p.val] w fun e w' => e = .returned (.bool true) ∧ Below w.heap.size w w' := by
  have hpv : p.val = .agg #[.int .u64 (p.keep : Int), .int .i64 p.torn, .int .i64 p.cut] := rfl
  have hlo := long_calls A cA L
  have hlo' := long_calls B cB M
  obtain ⟨n, hn⟩ : ∃ n, n = L.length := ⟨_, rfl⟩
  obtain ⟨m, hm⟩ : ∃ m, m = M.length := ⟨_, rfl⟩
  have Hn := Lib.hid hn
  have Hm := Lib.hid hm
  rw [hpv, ← hn, ← hm]
  rw [← hn] at hlo
  rw [← hm] at hlo'
  clear hpv hn hm
  have HL := Lib.hid hL
  have HM := Lib.hid hM
  clear hL hM
  go_enter Try.func4, Try.ntmps4
  go_wp2_with fail
  refine (disk_wakes _).mono ?_
  rintro e w1 ⟨rfl, hb⟩
  have hb0 : Below w.heap.size w (w.alloc (.cells #[.int .u64 (p.keep : Int), .int .i64 p.torn, .int .i64 p.cut] 37)) := (Below.refl _ _).alloc (Nat.le_refl _) _
  have hb1 : Below w.heap.size w w1 := hb0.trans (hb.mono (by simp))
  have hblk : w1.heap[w.heap.size]? = some (.cells #[.int .u64 (p.keep : Int), .int .i64 p.torn, .int .i64 p.cut] 37) := (hb.block _ (by simp)).trans (heap_alloc_new w _)
  have HP := Lib.hid hblk
  clear hb hb0 hblk
  have hL1 := HL.out.below hb1
  have hM1 := HM.out.below hb1
  have HL1 := Lib.hid hL1
  have HM1 := Lib.hid hM1
  have q1 := hlo w1 hL1
  have q2 := hlo' w1 hM1
  clear hlo hlo' hL1 hM1 HL HM
  go_wp2_with fail
  refine q1.mono ?_
  clear q1
  rintro e w2 ⟨b, rfl, rfl, hbL⟩
  cases b with
  | true =>
    clear q2
    go_wp2_with fail
    go_ret
    exact ⟨rfl, hb1⟩
  | false =>
    go_wp2_with fail
    refine q2.mono ?_
    clear q2
    rintro e w3 ⟨b, rfl, rfl, hbM⟩
    cases b with
    | true =>
      go_wp2_with fail
      go_ret
      exact ⟨rfl, hb1⟩
    | false =>
      have hb5 := hbL trivial
      have hb6 := hbM rfl
      have hn1 : n ≤ 100 := by have := hb5.1; have := Hn.out; omega
      have hm1 : m ≤ 100 := by have := hb6.1; have := Hm.out; omega
      have HbL := Lib.hid hb5
      have HbM := Lib.hid hb6
      clear hb5 hb6
      clear hbL hbM
      go_wp2_with fail
      refine (disk_new_calls 8 8 (by omega) (by omega) w3).mono ?_
      rintro e w4 ⟨d, F0, rfl, hD0, hb4, hF0⟩
      have hz0 : Dz w3 w4 F0 d 8 (St.new 8) := ⟨hD0, hb4, hF0⟩
      have HZ0 := Lib.hid hz0
      clear hD0 hb4 hF0 hz0
      go_wp2_with fail
      go_loopw [27] (fun i wr => ∃ k : Nat, k ≤ n ∧ i = .int .i64 k ∧ ∃ F s, Dz w3 wr F d 8 s ∧ s.Calm ∧ s.pn.length ≤ k) (fun i _ => n - (intOf i).toNat)
      case atStart => exact ⟨0, by omega, rfl, F0, _, HZ0.out, ⟨rfl, rfl⟩, Nat.le_refl _⟩
      case round =>
        obtain ⟨k, hk, rfl, F, s, hz, hcalm, hlen⟩ := hrel
        by_cases hlt : k < n
        · obtain ⟨a, rfl, hok, hld⟩ := acts_get HL1.out hz.bel (k := k) (by rw [← Hn.out]; exact hlt)
          have hnn : s.pn.length ≤ 1000000 := by have := HbL.out.1; have := Hn.out; omega
          have HN := Lib.hid hlen
          have HC := Lib.hid hcalm
          generalize L[k]'(by rw [← Hn.out]; exact hlt) = ac at hok hld
          have hst := store_act wr ac
          have hld2 := load_act_new wr ac
          have hbn : Below wr.heap.size wr (wr.alloc (.cells ac.cells.toArray 43)) := (Below.refl _ _).alloc (Nat.le_refl _) _
          have hz2 := hz.below hbn
          have e0 : (wr.alloc (.cells ac.cells.toArray 43)).cell? ⟨wr.heap.size, 0, none⟩ = some (.int .i64 ac.kind) := by rw [cell_of_row _ _ 0 _ _ _ (heap_alloc_new wr _)]; rfl
          have hdo := do_dz hz2 hok (by omega) hnn
          have HZ2 := Lib.hid hz2
          have hsz : (wr.alloc (.cells ac.cells.toArray 43)).heap.size = wr.heap.size + 1 := by simp
          generalize hW : wr.alloc (.cells ac.cells.toArray 43) = W at *
          clear hW hbn hz hz2 hcalm hlen
          have i1 : (0 : Int) ≤ (k : Int) := by omega
          have i2 : (k : Int) < (n : Int) := by omega
          have hav : ac.val = .agg #[.int .i64 ac.kind, .int .i64 ac.at_, .slice ac.A ac.ks.length ac.c, .int .u64 (ac.p.keep : Int), .int .i64 ac.p.torn, .int .i64 ac.p.cut] := rfl
          by_cases hk0 : ac.kind ≥ 0
          · have t0 : decide (ac.kind ≥ 0) = true := by simp; omega
            by_cases hk1 : ac.kind < 2
            · have t1 : decide (ac.kind < 2) = true := by simp; omega
              have hkk : ac.kind = 0 ∨ ac.kind = 1 := by omega
              clear hk0 hk1
              go_wp2_with (first | (refine wpList_store_run rfl 43 _ _ rfl rfl _ rfl _ rfl _ hst ?_) | (refine wpList_load_run rfl 43 _ rfl _ rfl _ hld ?_) | (refine wpList_load_run rfl 43 _ rfl _ rfl _ hld2 ?_))
              refine hdo.mono ?_
              rintro e wx ⟨F', rfl, hz', _, _⟩
              have hc2 := HC.out.act 8 ac.kind ac.at_ ac.ks ac.p hkk
              have hl2 := HN.out
              generalize s.act 8 ac.kind ac.at_ ac.ks ac.p = s' at hz' hc2
              clear hdo hst hld hld2 t0 t1 e0
              go_wp2_with fail
              exact ⟨⟨k + 1, by omega, by go_num, F', s', hz', hc2.1, by omega⟩, by simp [intOf]; omega⟩
            · have t1 : decide (ac.kind < 2) = false := by simp; omega
              clear hk0 hk1 hdo
              go_wp2_with (first | (refine wpList_store_run rfl 43 _ _ rfl rfl _ rfl _ rfl _ hst ?_) | (refine wpList_load_run rfl 43 _ rfl _ rfl _ hld ?_) | (refine wpList_load_run rfl 43 _ rfl _ rfl _ hld2 ?_))
              exact ⟨⟨k + 1, by omega, by go_num, F, s, HZ2.out, HC.out, by have := HN.out; omega⟩, by simp [intOf]; omega⟩
          · have t0 : decide (ac.kind ≥ 0) = false := by simp; omega
            clear hk0 hdo
            go_wp2_with (first | (refine wpList_store_run rfl 43 _ _ rfl rfl _ rfl _ rfl _ hst ?_) | (refine wpList_load_run rfl 43 _ rfl _ rfl _ hld ?_) | (refine wpList_load_run rfl 43 _ rfl _ rfl _ hld2 ?_))
            exact ⟨⟨k + 1, by omega, by go_num, F, s, HZ2.out, HC.out, by have := HN.out; omega⟩, by simp [intOf]; omega⟩
        · obtain rfl : k = n := by omega
          have hp2 := HP.out
          have hnn : s.pn.length ≤ 1000000 := by omega
          have hsy := sync_dz hz (by omega)
          rw [hcalm.syncE, hcalm.sync] at hsy
          have h3 : St.Three { s with sy := s.nw, pn := [] } 0 (sec s.nw 3) := ⟨hcalm, Nat.le_refl _, rfl, fun q hq => by cases hq⟩
          have hnw : ({ s with sy := s.nw, pn := [] } : St).nw = s.nw := rfl
          generalize ({ s with sy := s.nw, pn := [] } : St) = s1 at hsy h3 hnw
          clear hcalm hlen hnn hp2
          have hsl := Lib.hid (sec_length hz.dk.ok.nl (show 3 < 8 by omega))
          clear hz
          go_wp2_with fail
          refine hsy.mono ?_
          rintro e w5 ⟨F5, rfl, hz5, -, -⟩
          have hrd := read_dz hz5 (k := 3) (by omega) (by omega)
          rw [hnw] at hrd
          have HG5 := Lib.hid (show ¬ F5 w5.heap.size from fun q => by have := (hz5.inn _ q).2; omega)
          clear hsy hz5 hnw
          have H3 := Lib.hid h3
          clear h3
          go_wp2_with fail
          refine hrd.mono ?_
          rintro e w6 ⟨rfl, hbt, hb6, hz6, hs6⟩
          have hwl : (sec s.nw 3).length = 64 := hsl.out
          generalize sec s.nw 3 = want at hbt hwl H3
          have hg : ¬ F5 w5.heap.size := HG5.out
          clear hrd
          have HB := Lib.hid hbt
          have HZ6 := Lib.hid hz6
          have HG := Lib.hid hg
          clear hbt hz6 hg hb6
          generalize w5.heap.size = g at *
          go_wp2_with fail
          go_loopw [53] (fun i wr => ∃ k : Nat, k ≤ m ∧ i = .int .i64 k ∧ ∃ F s, Dz w3 wr F d 8 s ∧ s.Three k want ∧ ¬ F g ∧ Bts wr (some ⟨g, 0, none⟩) want ∧ g < wr.heap.size) (fun i _ => m - (intOf i).toNat)
          case atStart => exact ⟨0, by omega, rfl, F5, _, HZ6.out, H3.out, HG.out, HB.out, hs6⟩
          case round =>
            obtain ⟨k, hk, rfl, F, s, hz, h3, hg, hbt, hgs⟩ := hrel
            by_cases hlt : k < m
            · obtain ⟨b, rfl, hok, hld⟩ := acts_get HM1.out hz.bel (k := k) (by rw [← Hm.out]; exact hlt)
              have hnn : s.pn.length ≤ 1000000 := by have := h3.len; omega
              generalize M[k]'(by rw [← Hm.out]; exact hlt) = ac at hok hld
              have hst := store_act wr ac
              have hld2 := load_act_new wr ac
              have hbn : Below wr.heap.size wr (wr.alloc (.cells ac.cells.toArray 43)) := (Below.refl _ _).alloc (Nat.le_refl _) _
              have hz2 := hz.below hbn
              have hbt2 := hbt.below hbn
              have e0 : (wr.alloc (.cells ac.cells.toArray 43)).cell? ⟨wr.heap.size, 0, none⟩ = some (.int .i64 ac.kind) := by rw [cell_of_row _ _ 0 _ _ _ (heap_alloc_new wr _)]; rfl
              have e1 : (wr.alloc (.cells ac.cells.toArray 43)).cell? ⟨wr.heap.size, 1, none⟩ = some (.int .i64 ac.at_) := by rw [cell_of_row _ _ 1 _ _ _ (heap_alloc_new wr _)]; rfl
              have hdo := do_dz hz2 hok (by omega) hnn
              have H3 := Lib.hid h3
              have HZ2 := Lib.hid hz2
              have HT2 := Lib.hid hbt2
              have HG := Lib.hid hg
              have hsz : (wr.alloc (.cells ac.cells.toArray 43)).heap.size = wr.heap.size + 1 := by simp
              generalize hW : wr.alloc (.cells ac.cells.toArray 43) = W at *
              clear hW hbn hz hz2 h3 hbt hbt2 hg
              have i1 : (0 : Int) ≤ (k : Int) := by omega
              have i2 : (k : Int) < (m : Int) := by omega
              have hav : ac.val = .agg #[.int .i64 ac.kind, .int .i64 ac.at_, .slice ac.A ac.ks.length ac.c, .int .u64 (ac.p.keep : Int), .int .i64 ac.p.torn, .int .i64 ac.p.cut] := rfl
              by_cases hk0 : ac.kind = 0
              · have t0 : (ac.kind == 0) = true := by simp [hk0]
                by_cases hk1 : ac.at_ = 3
                · have t1 : (ac.at_ != 3) = false := by simp [hk1]
                  clear hk0 hk1 hdo
                  go_wp2_with (first | (refine wpList_store_run rfl 43 _ _ rfl rfl _ rfl _ rfl _ hst ?_) | (refine wpList_load_run rfl 43 _ rfl _ rfl _ hld ?_) | (refine wpList_load_run rfl 43 _ rfl _ rfl _ hld2 ?_))
                  exact ⟨⟨k + 1, by omega, by go_num, F, s, HZ2.out, H3.out.le, HG.out, HT2.out, by omega⟩, by simp [intOf]; omega⟩
                · have t1 : (ac.at_ != 3) = true := by simp [hk1]
                  have hkind := Lib.hid hk0
                  have hat := Lib.hid hk1
                  clear hk0 hk1
                  go_wp2_with (first | (refine wpList_store_run rfl 43 _ _ rfl rfl _ rfl _ rfl _ hst ?_) | (refine wpList_load_run rfl 43 _ rfl _ rfl _ hld ?_) | (refine wpList_load_run rfl 43 _ rfl _ rfl _ hld2 ?_))
                  refine hdo.mono ?_
                  rintro e wx ⟨F', rfl, hz', hch, hex⟩
                  have hc2 := H3.out.act (n := 8) (ks := ac.ks) ac.p hat.out
                  rw [← hkind.out] at hc2
                  generalize s.act 8 ac.kind ac.at_ ac.ks ac.p = s' at hz' hc2
                  have hg' : ¬ F' g := fun q => by rcases hex g q with e | e; exact HG.out e; omega
                  have hbt' := HT2.out.kept (hch.block g (by omega) HG.out)
                  have hgs' : g < wx.heap.size := by have := hch.size; omega
                  have HB' := Lib.hid hbt'
                  have HG' := Lib.hid hg'
                  have HZ' := Lib.hid hz'
                  have H3' := Lib.hid hc2
                  clear hdo hst hld hld2 t0 t1 e0 e1 hg' hbt' hz' hc2 hch hex
                  go_wp2_with fail
                  exact ⟨⟨k + 1, by omega, by go_num, F', s', HZ'.out, H3'.out, HG'.out, HB'.out, hgs'⟩, by simp [intOf]; omega⟩
              · have t0 : (ac.kind == 0) = false := by simp [hk0]
                clear hk0 hdo
                go_wp2_with (first | (refine wpList_store_run rfl 43 _ _ rfl rfl _ rfl _ rfl _ hst ?_) | (refine wpList_load_run rfl 43 _ rfl _ rfl _ hld ?_) | (refine wpList_load_run rfl 43 _ rfl _ rfl _ hld2 ?_))
                exact ⟨⟨k + 1, by omega, by go_num, F, s, HZ2.out, H3.out.le, HG.out, HT2.out, by omega⟩, by simp [intOf]; omega⟩
            · obtain rfl : k = m := by omega
              have hcr := crash_dz p hz (by omega) (by have := h3.len; omega) hkeep
              rw [show p.val = .agg #[.int .u64 (p.keep : Int), .int .i64 p.torn, .int .i64 p.cut] from rfl] at hcr
              have hw := h3.crash hz.dk.ok p
              have hpl : wr.heap[w.heap.size]? = some (.cells #[.int .u64 (p.keep : Int), .int .i64 p.torn, .int .i64 p.cut] 37) := (hz.bel.block _ (Array.getElem?_eq_some_iff.1 HP.out).1).trans HP.out
              have hldp : (loadVar 37 ⟨w.heap.size, 0, none⟩).run Try.prog wr = .ok (.agg #[.int .u64 (p.keep : Int), .int .i64 p.torn, .int .i64 p.cut]) wr := run_loadVar_row (P := Try.prog) wr w.heap.size 37 37 _ (0, 0) _ hpl Try.underlying37 rfl (by kernel_rfl)
              have HT := Lib.hid hbt
              have HG2 := Lib.hid hg
              clear h3 hz hpl hbt hg
              go_wp2_with (refine wpList_load_run rfl 37 _ rfl _ rfl _ hldp ?_)
              refine hcr.mono ?_
              rintro e w7 ⟨F7, rfl, hz7, hch, hex⟩
              have hbt7 := HT.out.kept (hch.block g hgs HG2.out)
              have hgs7 : g < w7.heap.size := by have := hch.size; omega
              clear hcr hldp HT HG2 hch hex
              have hrd := read_dz hz7 (k := 3) (by omega) (by omega)
              rw [hw] at hrd
              have HB7 := Lib.hid hbt7
              clear hz7 hw hbt7
              go_wp2_with fail
              refine hrd.mono ?_
              rintro e w8 ⟨rfl, hbt8, hb8, hz8, hs8⟩
              have hsame := same_bytes _ _ 64 64 64 want w8 hbt8 (HB7.out.below hb8) hwl (by omega)
              have hbel := Lib.hid (hb1.trans (hz8.bel.mono hb1.size))
              clear hrd hz8 hb8 hbt8
              go_wp2_with fail
              refine hsame.mono ?_
              rintro e w9 ⟨rfl, q, rfl⟩
              have hbel1 := hbel.out
              have hbel2 : Hid (Below w.heap.size w (w8.drewN q)) := Lib.hid ⟨hbel1.os, hbel1.tape, hbel1.output, hbel1.size, hbel1.block⟩
              clear hsame
              go_wp2_with fail
              go_ret
              exact ⟨rfl, hbel2.out⟩
/-- A plan. -/
theorem open_plan {H : Type} {enc : TypeId × Value → H} {W : World} {base : Nat} {held : Bool} {r : Reach} {b0 : Nat} {v : Value} {d : DataW H} {p : List MemPlace} (hv : Value.okWide Try.prog W r b0 37 v) (h : DataW.Trod enc Try.prog W base (fun _ => true) held 37 v d p) :
    ∃ p : Pl, v = p.val ∧ p.keep < 18446744073709551616 := by
  obtain ⟨v0, v1, v2, y0, y1, y2, n, rfl, _, _, h0, h1, h2⟩ := Go.Joins.open_agg3 Try.underlying37 (by kernel_rfl) (by kernel_rfl) hv h
  obtain ⟨kp, k3, _, w3⟩ := Go.DataW.trod_int Try.underlying35 h0
  obtain ⟨tn, k4, _, w4⟩ := Go.DataW.trod_int Try.underlying3 h1
  obtain ⟨ct, k5, _, w5⟩ := Go.DataW.trod_int Try.underlying3 h2
  simp only [List.cons.injEq, and_true] at k3 k4 k5
  subst k3 k4 k5
  have b3 : 0 ≤ kp ∧ kp < 18446744073709551616 := by
    have m0 : IntKind.u64.min = 0 := by decide
    have m1 : IntKind.u64.max = 18446744073709551615 := by decide
    simp [Lit.wf, m0, m1] at w3
    omega
  refine ⟨⟨kp.toNat, tn, ct⟩, ?_, by show kp.toNat < _; omega⟩
  have : ((kp.toNat : Nat) : Int) = kp := by omega
  simp [Pl.val, this]
theorem DiskSynced_walk {w : World} (A : Option Addr) (cA : Nat) (L : List Ac) (hL : Acts w A L) (B : Option Addr) (cB : Nat) (M : List Ac) (hM : Acts w B M) (p : Pl) (hk : p.keep < 18446744073709551616) :
    Calls Try.prog 4 #[.slice A L.length cA, .slice B M.length cB, p.val] w fun e w' => e = .returned (.bool true) ∧ Below w.heap.size w w' :=
  DiskSynced_go A cA L B cB M p w hL hM hk
end Go.Proofs.Ytomihbanpjedeaa
