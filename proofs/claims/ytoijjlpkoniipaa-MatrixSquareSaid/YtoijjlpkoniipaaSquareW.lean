/- The law MatrixSquare. -/
import Derived.Test.YtoijjlpkoniipaaSquare
namespace Go.Proofs.Ytoijjlpkoniipaa
open Go.RowKit Go.Proofs.YtoijjlpkoniipaaW.PrintWords Go.Proofs.YtoijjlpkoniipaaW.PrintLast Gf Lin
set_option linter.unusedSimpArgs false
theorem square_args (nn kk : UInt8) : ∃ cols rows : Nat, (1 ≤ cols ∧ cols ≤ 6) ∧ (cols ≤ rows ∧ rows ≤ 25) ∧ 1 + (kk.toNat : Int) % 6 = (cols : Int) ∧ (cols : Int) + (nn.toNat : Int) % 20 = (rows : Int) ∧ nn.toNat < 256 ∧ kk.toNat < 256 := by
  have n1 : nn.toNat < 256 := nn.toNat_lt
  have k1 : kk.toNat < 256 := kk.toNat_lt
  generalize nn.toNat = a at *
  generalize kk.toNat = b at *
  refine ⟨1 + b % 6, (1 + b % 6) + a % 20, by omega, by omega, by omega, by omega, n1, k1⟩
set_option maxHeartbeats 1000000 in
set_option maxRecDepth 100000 in
theorem MatrixSquare_walk (nn kk : UInt8) (X : Option Addr) (x : List UInt8) (xcap : Nat) (_hxc : x.length ≤ xcap) (w : World) (hx : KB.C w X x.length (bs x)) :
    Calls Try.prog 13 #[.int .u8 (nn.toNat : Int), .int .u8 (kk.toNat : Int), .slice X x.length xcap] w fun e w' => e = .returned (.bool true) ∧ Below w.heap.size w w' := by
  obtain ⟨cols, rows, c1, r1, q1, q2, q3, q4⟩ := square_args nn kk
  obtain ⟨l, hl⟩ : ∃ l, l = x.length := ⟨_, rfl⟩
  rw [← hl] at hx ⊢
  have HL := Lib.hid hl
  have hmax : l ≤ 9223372036854775807 := hx.2.1
  have HX := Lib.hid hx
  clear hl hx
  generalize nn.toNat = na at *
  generalize kk.toNat = ka at *
  go_enter Try.func13, Try.ntmps13
  go_wp2_with fail
  refine (wakes08 _).mono ?_
  rintro e w0 ⟨rfl, hb0⟩
  have HB0 := Lib.hid hb0
  clear hb0
  go_wp2_with fail
  refine (make_calls w0).mono ?_
  rintro e w1 ⟨rfl, ht, hlt, hb1⟩
  have HT := Lib.hid ht
  have HB1 := Lib.hid hb1
  have HLT := Lib.hid hlt
  clear ht hb1 hlt
  go_wp2_with fail
  refine (cauchy_good w0.heap.size rows cols (by omega) (by omega) (by omega) w1 HT.out HLT.out).mono ?_
  rintro e w2 ⟨rfl, hm, hb2, hs2⟩
  have HM := Lib.hid hm
  have HB2 := Lib.hid hb2
  have HS2 := Lib.hid hs2
  clear hm hb2 hs2
  have hst : (storeVar 76 ⟨w2.heap.size, 0, none⟩ (.agg Z32b)).run Try.prog (w2.alloc (.cells Z32b 76)) = .ok () (w2.alloc (.cells Z32b 76)) := run_storeVar_new w2 76 Z32b Z32b (by rw [size76]; rfl) rfl (by kernel_rfl)
  go_wp2_with (refine wpList_store_run rfl 76 _ _ rfl rfl _ rfl _ rfl _ hst ?_)
  obtain ⟨zz, hzz⟩ : ∃ zz, zz = Value.agg Z32b := ⟨_, rfl⟩
  rw [show Value.agg #[Value.bool false, Value.bool false, Value.bool false, Value.bool false, Value.bool false, Value.bool false, Value.bool false, Value.bool false, Value.bool false, Value.bool false, Value.bool false, Value.bool false, Value.bool false, Value.bool false, Value.bool false, Value.bool false, Value.bool false, Value.bool false, Value.bool false, Value.bool false, Value.bool false, Value.bool false, Value.bool false, Value.bool false, Value.bool false, Value.bool false, Value.bool false, Value.bool false, Value.bool false, Value.bool false, Value.bool false, Value.bool false] = zz from hzz.symm]
  clear hzz
  have hsq := Sqm.start (rows := rows) (cols := cols) (HT.out.below HLT.out HB2.out) HM.out (by have := HB2.out.size; have := HLT.out; omega) (by have := HS2.out; omega) (by have := HS2.out; omega)
  obtain ⟨gt, hgt⟩ : ∃ gt, gt = w0.heap.size := ⟨_, rfl⟩
  obtain ⟨gm, hgm⟩ : ∃ gm, gm = w1.heap.size + 1 := ⟨_, rfl⟩
  obtain ⟨ga, hga⟩ : ∃ ga, ga = w1.heap.size := ⟨_, rfl⟩
  obtain ⟨ge, hge⟩ : ∃ ge, ge = w2.heap.size := ⟨_, rfl⟩
  rw [← hgt, ← hgm, ← hga, ← hge] at hsq
  rw [← hgt, ← hgm, ← hge]
  have HGE := Lib.hid hge
  have HW : Hid (Below w.heap.size w w2) := Lib.hid (HB0.out.trans ((HB1.out.trans (HB2.out.mono HB1.out.size)).mono HB0.out.size))
  have HSQ := Lib.hid hsq
  clear hst hsq hgt hgm hga hge q1 q2 q3 q4 HM HS2 HB2 HLT HT HB1 HB0
  go_loopw [12, 14] (fun ov iv wr => ∃ (i : Nat) (ps : List Nat), i ≤ l ∧ iv = .int .i64 i ∧ Sqm w2 wr gt gm ga ge rows cols ov ps) (fun _ iv _ => l - (intOf iv).toNat)
  case atStart => exact ⟨0, [], by omega, rfl, HSQ.out⟩
  case round =>
    obtain ⟨i, ps, hi, rfl, hs⟩ := hrel
    obtain ⟨A, cap, hA⟩ := hs.form
    subst hA
    obtain ⟨n, hn⟩ : ∃ n, n = ps.length := ⟨_, rfl⟩
    rw [← hn] at hs ⊢
    have HN := Lib.hid hn
    clear hn
    by_cases hin : i < l ∧ n < cols
    · obtain ⟨hil, hnc⟩ := hin
      have hxr := Kd.C_below HX.out (HW.out.trans (hs.bel.mono (by have := HW.out.size; have := HGE.out; omega)))
      obtain ⟨ad, rfl, hbyte⟩ := C_byteD hxr (k := i) (by have := HL.out; omega)
      obtain ⟨b, hb⟩ : ∃ b, b = (gb x i).toNat := ⟨_, rfl⟩
      rw [← hb] at hbyte
      have hb2 : b < 256 := by rw [hb]; exact UInt8.toNat_lt _
      obtain ⟨p, hp⟩ : ∃ p, p = b % rows := ⟨_, rfl⟩
      have hpl : p < rows := by rw [hp]; exact Nat.mod_lt _ (by omega)
      have hpe : (b : Int) % (rows : Int) = (p : Int) := by rw [hp]; omega
      have r0 : (0 : Int) < (rows : Int) := by omega
      have p0 : (0 : Int) ≤ (p : Int) := by omega
      have p1 : (p : Int) < 32 := by omega
      have l1 : (0 : Int) ≤ (i : Int) := by omega
      have l2 : (i : Int) < (l : Int) := by omega
      have l3 : (n : Int) < (cols : Int) := by omega
      have HP := Lib.hid hpl
      have hm1 : wr.cell? ⟨ge, p, none⟩ = some (.bool (decide (p ∈ ps))) := by rw [cell_of_row _ _ _ _ _ _ hs.met]; exact metC_at (by omega)
      by_cases hmem : p ∈ ps
      · rw [decide_eq_true hmem] at hm1
        have HS := Lib.hid hs
        clear hs hxr hb hp hpl hmem
        go_wp2_with fail
        exact ⟨⟨i + 1, ps, by omega, by go_num, HS.out⟩, by simp [intOf]; omega⟩
      · rw [decide_eq_false hmem] at hm1
        obtain ⟨v', w', hr', hs'⟩ := hs.step HGE.out c1.2 (by omega) hpl hmem (by rw [← HN.out]; exact hnc) 36
        have hf1 : wr.frozen? ⟨ge, p, none⟩ = false := frozen_of_row _ _ _ _ _ hs.met
        have hrw : (wr.setCell ⟨ge, p, none⟩ (.bool true)).cell? ⟨gm, p, none⟩ = some (.slice (some ⟨ga, p * cols, none⟩) cols cols) := by
          rw [World.cell?_setCell_other _ _ _ _ (fun e => by have := hs.lt.2.1; injection e with e; omega)]
          exact hs.m.rows p hpl
        simp only [rowV] at hr'
        obtain ⟨o, ho⟩ : ∃ o, o = p * cols := ⟨_, rfl⟩
        rw [← ho] at hr' hrw
        have HS := Lib.hid hs'
        clear hs hs' hxr hb hp hpl hmem ho
        go_wp2_with (at_builtin; refine Lib.wpList_append_run _ rfl _ _ _ _ rfl _ _ rfl rfl _ _ hr' ?_)
        exact ⟨⟨i + 1, _, by omega, by go_num, HS.out⟩, by simp [intOf]; omega⟩
    · by_cases hil : i < l
      · obtain rfl : cols = n := by have := hs.pk.le; have := HN.out; omega
        have l1 : (0 : Int) ≤ (i : Int) := by omega
        have l2 : (i : Int) < (l : Int) := by omega
        have HSI := Lib.hid hs
        clear hs hin
        skip
        go_wp2_with fail
        go_loopw [12, 16] (fun ov pv wr => ∃ (p : Nat) (ps : List Nat), p ≤ rows ∧ pv = .int .i64 p ∧ Sqm w2 wr gt gm ga ge rows cols ov ps ∧ ∀ q, q < p → q ∈ ps) (fun _ pv _ => rows - (intOf pv).toNat)
        case atStart => exact ⟨0, ps, by omega, rfl, HSI.out, fun q hq => by omega⟩
        case round =>
          obtain ⟨p, ps, hp, rfl, hs, hall⟩ := hrel
          obtain ⟨A, cap, hA⟩ := hs.form
          subst hA
          obtain ⟨n, hn⟩ : ∃ n, n = ps.length := ⟨_, rfl⟩
          rw [← hn] at hs ⊢
          have HN := Lib.hid hn
          have HALL := Lib.hid hall
          have hple := many_of_all p ps hall
          rw [← hn] at hple
          clear hn hall
          by_cases hnc : n < cols
          · have hpl : p < rows := by omega
            have p0 : (0 : Int) ≤ (p : Int) := by omega
            have p1 : (p : Int) < 32 := by omega
            have p2 : (p : Int) < (rows : Int) := by omega
            have l3 : (n : Int) < (cols : Int) := by omega
            have hm1 : wr.cell? ⟨ge, p, none⟩ = some (.bool (decide (p ∈ ps))) := by rw [cell_of_row _ _ _ _ _ _ hs.met]; exact metC_at (by omega)
            by_cases hmem : p ∈ ps
            · rw [decide_eq_true hmem] at hm1
              have HS := Lib.hid hs
              have HM2 := Lib.hid hmem
              clear hs hmem
              go_wp2_with fail
              exact ⟨⟨p + 1, ps, by omega, by go_num, HS.out, fun q hq => by
                by_cases hqp : q = p
                · rw [hqp]; exact HM2.out
                · exact HALL.out q (by omega)⟩, by simp [intOf]; omega⟩
            · rw [decide_eq_false hmem] at hm1
              obtain ⟨v', w', hr', hs'⟩ := hs.step HGE.out c1.2 (by omega) hpl hmem (by rw [← HN.out]; exact hnc) 36
              have hf1 : wr.frozen? ⟨ge, p, none⟩ = false := frozen_of_row _ _ _ _ _ hs.met
              have hrw : (wr.setCell ⟨ge, p, none⟩ (.bool true)).cell? ⟨gm, p, none⟩ = some (.slice (some ⟨ga, p * cols, none⟩) cols cols) := by
                rw [World.cell?_setCell_other _ _ _ _ (fun e => by have := hs.lt.2.1; injection e with e; omega)]
                exact hs.m.rows p hpl
              simp only [rowV] at hr'
              obtain ⟨o, ho⟩ : ∃ o, o = p * cols := ⟨_, rfl⟩
              rw [← ho] at hr' hrw
              have HS := Lib.hid hs'
              clear hs hs' hmem ho
              go_wp2_with (at_builtin; refine Lib.wpList_append_run _ rfl _ _ _ _ rfl _ _ rfl rfl _ _ hr' ?_)
              exact ⟨⟨p + 1, _, by omega, by go_num, HS.out, fun q hq => by
                by_cases hqp : q = p
                · rw [hqp]; simp
                · exact List.mem_append_left _ (HALL.out q (by omega))⟩, by simp [intOf]; omega⟩
          · obtain ⟨hle, hlt, hnd⟩ := (⟨hs.pk.le, hs.pk.lt, hs.pk.nd⟩ : ps.length ≤ cols ∧ _ ∧ _)
            obtain rfl : cols = n := by have := HN.out; omega
            have hln : (pickRows cols ps).length = cols := by simp [pickRows]; exact HN.out.symm
            have hsz : ge < wr.heap.size := by
              rcases Nat.lt_or_ge ge wr.heap.size with q | q
              · exact q
              · have := hs.met; rw [Array.getElem?_eq_none q] at this; cases this
            have hin := inverse_calls gt A (pickRows cols ps) cap wr hs.tab (by have := hs.lt.1; omega) (hs.reads HN.out.symm c1.1 c1.2 (Nat.le_refl _))
            rw [hln] at hin
            have HS := Lib.hid hs
            have HLN := Lib.hid hln
            have HSZ := Lib.hid hsz
            clear hs hle hlt hnd hln hsz
            go_wp2_with fail
            refine hin.mono ?_
            clear hin
            rintro e w5 ⟨v, ev, rfl, hpost, hb5⟩
            have hsq := pick_sq (ps := ps) c1.1 (by omega) HN.out.symm
            have hev : ev = 0 := by
              rcases hpost with ⟨h, _⟩ | ⟨_, _, _, y, j, hj, hy, h0⟩ | ⟨_, h, _⟩
              · exact absurd hsq h
              · rw [HLN.out] at hj h0
                exact absurd (pick_full HS.out.pk HN.out.symm (by omega) h0 j hj) hy
              · exact h
            subst hev
            have HBF : Hid (Below w.heap.size w w5) := Lib.hid (HW.out.trans ((HS.out.bel.trans (hb5.mono (by have := HSZ.out; omega))).mono (by have := HW.out.size; have := HGE.out; omega)))
            clear hpost hb5 hsq
            go_wp2_with fail
            go_ret
            exact ⟨rfl, HBF.out⟩
      · obtain rfl : l = i := by omega
        have HSI := Lib.hid hs
        clear hs hin
        skip
        go_wp2_with fail
        go_loopw [12, 16] (fun ov pv wr => ∃ (p : Nat) (ps : List Nat), p ≤ rows ∧ pv = .int .i64 p ∧ Sqm w2 wr gt gm ga ge rows cols ov ps ∧ ∀ q, q < p → q ∈ ps) (fun _ pv _ => rows - (intOf pv).toNat)
        case atStart => exact ⟨0, ps, by omega, rfl, HSI.out, fun q hq => by omega⟩
        case round =>
          obtain ⟨p, ps, hp, rfl, hs, hall⟩ := hrel
          obtain ⟨A, cap, hA⟩ := hs.form
          subst hA
          obtain ⟨n, hn⟩ : ∃ n, n = ps.length := ⟨_, rfl⟩
          rw [← hn] at hs ⊢
          have HN := Lib.hid hn
          have HALL := Lib.hid hall
          have hple := many_of_all p ps hall
          rw [← hn] at hple
          clear hn hall
          by_cases hnc : n < cols
          · have hpl : p < rows := by omega
            have p0 : (0 : Int) ≤ (p : Int) := by omega
            have p1 : (p : Int) < 32 := by omega
            have p2 : (p : Int) < (rows : Int) := by omega
            have l3 : (n : Int) < (cols : Int) := by omega
            have hm1 : wr.cell? ⟨ge, p, none⟩ = some (.bool (decide (p ∈ ps))) := by rw [cell_of_row _ _ _ _ _ _ hs.met]; exact metC_at (by omega)
            by_cases hmem : p ∈ ps
            · rw [decide_eq_true hmem] at hm1
              have HS := Lib.hid hs
              have HM2 := Lib.hid hmem
              clear hs hmem
              go_wp2_with fail
              exact ⟨⟨p + 1, ps, by omega, by go_num, HS.out, fun q hq => by
                by_cases hqp : q = p
                · rw [hqp]; exact HM2.out
                · exact HALL.out q (by omega)⟩, by simp [intOf]; omega⟩
            · rw [decide_eq_false hmem] at hm1
              obtain ⟨v', w', hr', hs'⟩ := hs.step HGE.out c1.2 (by omega) hpl hmem (by rw [← HN.out]; exact hnc) 36
              have hf1 : wr.frozen? ⟨ge, p, none⟩ = false := frozen_of_row _ _ _ _ _ hs.met
              have hrw : (wr.setCell ⟨ge, p, none⟩ (.bool true)).cell? ⟨gm, p, none⟩ = some (.slice (some ⟨ga, p * cols, none⟩) cols cols) := by
                rw [World.cell?_setCell_other _ _ _ _ (fun e => by have := hs.lt.2.1; injection e with e; omega)]
                exact hs.m.rows p hpl
              simp only [rowV] at hr'
              obtain ⟨o, ho⟩ : ∃ o, o = p * cols := ⟨_, rfl⟩
              rw [← ho] at hr' hrw
              have HS := Lib.hid hs'
              clear hs hs' hmem ho
              go_wp2_with (at_builtin; refine Lib.wpList_append_run _ rfl _ _ _ _ rfl _ _ rfl rfl _ _ hr' ?_)
              exact ⟨⟨p + 1, _, by omega, by go_num, HS.out, fun q hq => by
                by_cases hqp : q = p
                · rw [hqp]; simp
                · exact List.mem_append_left _ (HALL.out q (by omega))⟩, by simp [intOf]; omega⟩
          · obtain ⟨hle, hlt, hnd⟩ := (⟨hs.pk.le, hs.pk.lt, hs.pk.nd⟩ : ps.length ≤ cols ∧ _ ∧ _)
            obtain rfl : cols = n := by have := HN.out; omega
            have hln : (pickRows cols ps).length = cols := by simp [pickRows]; exact HN.out.symm
            have hsz : ge < wr.heap.size := by
              rcases Nat.lt_or_ge ge wr.heap.size with q | q
              · exact q
              · have := hs.met; rw [Array.getElem?_eq_none q] at this; cases this
            have hin := inverse_calls gt A (pickRows cols ps) cap wr hs.tab (by have := hs.lt.1; omega) (hs.reads HN.out.symm c1.1 c1.2 (Nat.le_refl _))
            rw [hln] at hin
            have HS := Lib.hid hs
            have HLN := Lib.hid hln
            have HSZ := Lib.hid hsz
            clear hs hle hlt hnd hln hsz
            go_wp2_with fail
            refine hin.mono ?_
            clear hin
            rintro e w5 ⟨v, ev, rfl, hpost, hb5⟩
            have hsq := pick_sq (ps := ps) c1.1 (by omega) HN.out.symm
            have hev : ev = 0 := by
              rcases hpost with ⟨h, _⟩ | ⟨_, _, _, y, j, hj, hy, h0⟩ | ⟨_, h, _⟩
              · exact absurd hsq h
              · rw [HLN.out] at hj h0
                exact absurd (pick_full HS.out.pk HN.out.symm (by omega) h0 j hj) hy
              · exact h
            subst hev
            have HBF : Hid (Below w.heap.size w w5) := Lib.hid (HW.out.trans ((HS.out.bel.trans (hb5.mono (by have := HSZ.out; omega))).mono (by have := HW.out.size; have := HGE.out; omega)))
            clear hpost hb5 hsq
            go_wp2_with fail
            go_ret
            exact ⟨rfl, HBF.out⟩
end Go.Proofs.Ytoijjlpkoniipaa
