/- Matrices: Rank. -/
import Derived.Test.YtoijjlpkoniipaaMatsC
set_option linter.unusedVariables false
set_option linter.unusedSimpArgs false
namespace Go.Proofs.Ytoijjlpkoniipaa
open Go.RowKit Go.Proofs.YtoijjlpkoniipaaW.PrintWords Go.Proofs.YtoijjlpkoniipaaW.PrintLast Gf Lin
/-- What Rank answers. -/
def RankPost (m : List (List UInt8)) (r : Nat) : Prop := (Rgt m ∧ IsRank m.length (gr m 0).length (fn m) r) ∨ (¬ Rgt m ∧ r = 0)
set_option maxHeartbeats 4000000 in
set_option maxRecDepth 100000 in
theorem rank_calls (gt : Nat) (A : Option Addr) (m : List (List UInt8)) (cap : Nat) (w : World) (ht : Tab w gt) (hg : gt < w.heap.size) (hr : KBB.C w A m.length (bss m)) :
    Calls Try.prog 52 #[.pointer (some ⟨gt, 0, none⟩), .slice A m.length cap] w fun e w' => ∃ r : Nat, e = .returned (.int .i64 (r : Int)) ∧ RankPost m r ∧ Below w.heap.size w w' := by
  have hri := right_calls A m cap w hr
  by_cases hm : Rgt m
  · obtain ⟨ad, B0, c0, rfl, hcell, hcc, _⟩ := C_rowD hr (k := 0) (by have := hm.n1; omega)
    have hcop := copied_calls (some ad) m cap w hr hm
    obtain ⟨n, hn⟩ : ∃ n, n = m.length := ⟨_, rfl⟩
    obtain ⟨c, hc⟩ : ∃ c, c = (gr m 0).length := ⟨_, rfl⟩
    have Hn := Lib.hid hn
    have Hc := Lib.hid hc
    have n1 : 1 ≤ n := by have := hm.n1; omega
    have n2 : n ≤ 255 := by have := hm.n2; omega
    have c1 : 1 ≤ c := by have := hm.c1; omega
    have c2 : c ≤ 255 := by have := hm.c2; omega
    rw [← hn, ← hc] at hcop
    rw [← hn] at hri ⊢
    have i0 : (0 : Int) < (n : Int) := by omega
    have HM := Lib.hid hm
    have HR := Lib.hid hr
    have HT := Lib.hid ht
    clear hn hc hr hm hcc hcell ht
    go_enter Try.func52, Try.ntmps52
    go_wp2_with fail
    refine hri.mono ?_
    clear hri
    rintro e w0 ⟨b, rfl, rfl, hb⟩
    have hbt : b = true := hb.2 HM.out
    subst hbt
    clear hb
    go_wp2_with fail
    refine hcop.mono ?_
    clear hcop
    rintro e w1 ⟨rfl, hm1, hb1, hs1⟩
    have hbl := blank_calls n 1 n2 (by omega) (by omega) w1
    have HM1 := Lib.hid hm1
    have HB1 := Lib.hid hb1
    have HS1 := Lib.hid hs1
    clear hm1 hb1 hs1
    go_wp2_with fail
    refine hbl.mono ?_
    clear hbl
    rintro e w2 ⟨rfl, hm2, hb2, hs2⟩
    have HM2 := Lib.hid hm2
    have HB2 := Lib.hid hb2
    have HS2 := Lib.hid hs2
    clear hm2 hb2 hs2
    go_wp2_with fail
    obtain ⟨w3, hw3⟩ : ∃ w3, w3 = w2.alloc (.cells #[.pointer (some ⟨gt, 0, none⟩), .slice (some ⟨w0.heap.size + 1, 0, none⟩) n n, .slice (some ⟨w1.heap.size + 1, 0, none⟩) n n] 102) := ⟨_, rfl⟩
    rw [← hw3]
    have hb12 : Below w0.heap.size w0 w2 := HB1.out.trans (HB2.out.mono HB1.out.size)
    have hb3 : Below w2.heap.size w2 w3 := by rw [hw3]; exact (Below.refl _ _).alloc (Nat.le_refl _) _
    have hb03 : Below w0.heap.size w0 w3 := hb12.trans (hb3.mono hb12.size)
    have s1 := HS1.out
    have s2 := HS2.out
    have s3 : w3.heap.size = w2.heap.size + 1 := by rw [hw3]; simp
    have hwk : Wk w3 w2.heap.size gt (w0.heap.size + 1) w0.heap.size (w1.heap.size + 1) w1.heap.size n c 1 id id (fn m) (fun _ _ => 0) := by
      refine ⟨by rw [hw3]; exact heap_alloc_new w2 _, tab_same HT.out (hb03.block gt hg), ?_, HM2.out.same (hb3.block _ (by omega)) (hb3.block _ (by omega)), perm_id n, perm_id n, by omega, by omega, by omega, by omega, ⟨n1, n2⟩, ⟨c1, c2⟩, ⟨by omega, by omega⟩⟩
      exact HM1.out.same ((hb3.block _ (by omega)).trans (HB2.out.block _ (by omega))) ((hb3.block _ (by omega)).trans (HB2.out.block _ (by omega)))
    obtain ⟨g, hgg⟩ : ∃ g, g = w2.heap.size := ⟨_, rfl⟩
    obtain ⟨gm, hgm⟩ : ∃ gm, gm = w0.heap.size + 1 := ⟨_, rfl⟩
    obtain ⟨ga, hga⟩ : ∃ ga, ga = w0.heap.size := ⟨_, rfl⟩
    obtain ⟨gs, hgs⟩ : ∃ gs, gs = w1.heap.size + 1 := ⟨_, rfl⟩
    obtain ⟨gb, hgb⟩ : ∃ gb, gb = w1.heap.size := ⟨_, rfl⟩
    have hWF : ∀ i, WF gm ga gs gb i → w0.heap.size ≤ i := fun i hi => by unfold WF at hi; omega
    rw [← hgg, ← hgm, ← hga, ← hgs, ← hgb] at hwk
    rw [← hgg, ← hgm, ← hgs]
    have HWK := Lib.hid hwk
    have HB03 := Lib.hid hb03
    have HWF := Lib.hid hWF
    clear hw3 hb12 hb3 hb03 s1 s2 s3 hwk hgg hgm hga hgs hgb hWF HM1 HM2 HB1 HB2 HS1 HS2
    go_loopw [6, 7] (fun rv cv wr => ∃ r col : Nat, r ≤ n ∧ col ≤ c ∧ rv = .int .i64 r ∧ cv = .int .i64 col ∧ ∃ p q M S pc, Wk wr g gt gm ga gs gb n c 1 p q M S ∧ Rel n (fn m) (fun _ _ => 0) M S ∧ Cols n r pc M ∧ (∀ t, t < r → pc t < col) ∧ Low n r col M ∧ Chg (WF gm ga gs gb) w3 wr) (fun _ cv _ => c - (intOf cv).toNat)
    case atStart => exact ⟨0, 0, by omega, by omega, rfl, rfl, _, _, _, _, id, HWK.out, Rel.start n _ _, fun t ht => by omega, fun t ht => by omega, fun i _ _ j hj => by omega, Chg.refl _ _⟩
    case round =>
      obtain ⟨r, col, hrn, hcol, rfl, rfl, p, q, M, S, pc, hwi, hrel', hcols, hpc, hlow, hchi⟩ := hrel
      have hbel := hchi.below (B := w0.heap.size) HB03.out HB03.out.size HWF.out
      obtain ⟨ad', B0', c0', e, hcell, _, _⟩ := C_rowD (Kd.C_below HR.out hbel) (k := 0) (by have := Hn.out; omega)
      cases e
      have add0 : ad.add 0 = ad := by simp [Addr.add]
      rw [add0, ← Hc.out] at hcell
      clear add0
      by_cases hcc : col < c
      · have l1 : (col : Int) < (c : Int) := by omega
        by_cases hrr : r < n
        · have l2 : (r : Int) < (n : Int) := by omega
          have hcl := clear_calls hwi hrr hcc
          have HRE := Lib.hid hrel'
          have HCO := Lib.hid hcols
          have HCH := Lib.hid hchi
          have HPC := Lib.hid hpc
          have HLO := Lib.hid hlow
          clear hwi hrel' hcols hchi hpc hlow hbel
          go_wp2_with fail
          refine hcl.mono ?_
          clear hcl hcell
          rintro e w5 ⟨b, rfl, p', q', M', S', hw5, hch5, hres⟩
          have hch6 := HCH.out.trans hch5 (fun _ hx => .inl hx)
          have HW5 := Lib.hid hw5
          have HC6 := Lib.hid hch6
          clear hw5 hch5 hch6
          rcases hres with ⟨rfl, rfl, rfl, hz⟩ | ⟨rfl, at_, ha1, ha2, hne, rfl, rfl⟩
          · have HZ := Lib.hid hz
            clear hz
            go_wp2_with fail
            exact ⟨⟨r, col + 1, by omega, by omega, rfl, by go_num, p', q', _, _, pc, HW5.out, HRE.out, HCO.out, fun t ht => by have := HPC.out t ht; omega, fun i h1 h2 j hj => by
              by_cases hjc : j = col
              · rw [hjc]; exact HZ.out i h1 h2
              · exact HLO.out i h1 h2 j (by omega), HC6.out⟩, by simp [intOf]; omega⟩
          · have hr2 := HRE.out.clr hrr ha2 hne
            have hcc2 : Cols n r (fun t => if t = r then col else pc t) M := HCO.out.congr (fun t ht => by rw [if_neg (by omega)])
            have hc2 := clr_cols hcc2 ha1 ha2 hne (p := fun t => if t = r then col else pc t) (by simp)
            have hl2 := clr_low HLO.out hrr ha1 ha2 hne
            have HR2 := Lib.hid hr2
            have HC2 := Lib.hid hc2
            have HL2 := Lib.hid hl2
            clear ha1 ha2 hne hr2 hc2 hcc2 hl2
            go_wp2_with fail
            exact ⟨⟨r + 1, col + 1, by omega, by omega, by go_num, by go_num, p', q', _, _, _, HW5.out, HR2.out, HC2.out, fun t ht => by
              by_cases htr : t = r
              · rw [if_pos htr]; omega
              · rw [if_neg htr]; have := HPC.out t (by omega); omega, HL2.out, HC6.out⟩, by simp [intOf]; omega⟩
        · obtain rfl : n = r := by omega
          have hk := (rank_done hcols (Nat.le_refl _) (fun t ht => by have := hpc t ht; omega : ∀ t, t < n → pc t < c) (.inr rfl)).of_rows (hrel'.rows (c := c)).1 (hrel'.rows (c := c)).2
          have HK := Lib.hid hk
          have HB := Lib.hid hbel
          clear hwi hrel' hcols hpc hlow hchi hk hbel
          go_wp2_with fail
          go_ret
          exact ⟨n, rfl, .inl ⟨HM.out, by rw [← Hn.out, ← Hc.out]; exact HK.out⟩, HB.out⟩
      · obtain rfl : c = col := by omega
        have hk := (rank_done hcols hrn hpc (.inl hlow)).of_rows (hrel'.rows (c := c)).1 (hrel'.rows (c := c)).2
        have HK := Lib.hid hk
        have HB := Lib.hid hbel
        clear hwi hrel' hcols hpc hlow hchi hk hbel
        go_wp2_with fail
        go_ret
        exact ⟨r, rfl, .inl ⟨HM.out, by rw [← Hn.out, ← Hc.out]; exact HK.out⟩, HB.out⟩
  · have HM := Lib.hid hm
    clear hm hr ht
    go_enter Try.func52, Try.ntmps52
    go_wp2_with fail
    refine hri.mono ?_
    clear hri
    rintro e w0 ⟨b, rfl, rfl, hb⟩
    have hbt : b = false := by
      cases b with
      | false => rfl
      | true => exact absurd (hb.1 rfl) HM.out
    subst hbt
    clear hb
    go_wp2_with fail
    go_ret
    exact ⟨0, rfl, .inr ⟨HM.out, rfl⟩, Below.refl _ _⟩
end Go.Proofs.Ytoijjlpkoniipaa
