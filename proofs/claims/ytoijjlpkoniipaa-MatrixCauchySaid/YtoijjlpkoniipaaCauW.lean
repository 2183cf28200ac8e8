/- The law MatrixCauchy. -/
import Derived.Test.YtoijjlpkoniipaaCalls08
set_option linter.unusedVariables false
set_option linter.unusedSimpArgs false
namespace Go.Proofs.Ytoijjlpkoniipaa
open Go.RowKit Go.Proofs.YtoijjlpkoniipaaW.PrintWords Go.Proofs.YtoijjlpkoniipaaW.PrintLast Gf Lin
theorem docCau_rows (n k : Int) : PRsEncode.Rowsle (docCau n k).1 255 := by
  unfold docCau
  split
  · next h =>
    intro r hr
    simp only [rowsOf, List.mem_map] at hr
    obtain ⟨i, _, rfl⟩ := hr
    simp; omega
  · intro r hr; cases hr
theorem docUnit_rows (z : Int) : PRsEncode.Rowsle (docUnit z) 255 := by
  unfold docUnit
  split
  · next h =>
    intro r hr
    simp only [rowsOf, List.mem_map] at hr
    obtain ⟨i, _, rfl⟩ := hr
    simp; omega
  · intro r hr; cases hr
set_option maxHeartbeats 2000000 in
set_option maxRecDepth 100000 in
theorem MatrixCauchy_walk (w : World) (n : Int) (n0 : -9223372036854775808 ≤ n) (n1 : n ≤ 9223372036854775807) (k : Int) (k0 : -9223372036854775808 ≤ k) (k1 : k ≤ 9223372036854775807) :
    Calls Try.prog 12 #[.int .i64 n, .int .i64 k] w fun e w' => e = .returned (.bool true) ∧ Below w.heap.size w w' := by
  have H : ∀ z : Int, (decide (z > 40) = false) ∨ (decide (z > 40) = true ∧ decide (z ≤ 255) = false) ∨ (decide (z > 40) = true ∧ decide (z ≤ 255) = true) := fun z => by
    by_cases h1 : z > 40
    · by_cases h2 : z ≤ 255
      · exact .inr (.inr ⟨decide_eq_true h1, decide_eq_true h2⟩)
      · exact .inr (.inl ⟨decide_eq_true h1, decide_eq_false h2⟩)
    · exact .inl (decide_eq_false h1)
  rcases H n with t1 | ⟨t1, t2⟩ | ⟨t1, t2⟩
  · rcases H k with s1 | ⟨s1, s2⟩ | ⟨s1, s2⟩
    · go_enter Try.func12, Try.ntmps12
      go_wp2_with fail
      refine (wakes08 _).mono ?_
      rintro e w0 ⟨rfl, hb0⟩
      have HB0 := Lib.hid hb0
      clear hb0
      go_wp2_with fail
      refine (make_calls w0).mono ?_
      rintro e w1 ⟨rfl, ht, hs, hb1⟩
      have HB1 := Lib.hid (HB0.out.trans (hb1.mono HB0.out.size))
      have hca := cauchy_any w0.heap.size n k w1 ht hs
      clear ht hs hb1
      go_wp2_with fail
      refine hca.mono ?_
      clear hca
      rintro e w2 ⟨v2, rfl, ⟨A2, c2, rfl, hc2, hr2⟩, hb2⟩
      have HB2 := Lib.hid (HB1.out.trans (hb2.mono HB1.out.size))
      have HC2 := Lib.hid hc2
      have HR2 := Lib.hid hr2
      have hrf := ref_cauchy n k w2
      obtain ⟨ev, hev⟩ : ∃ ev, ev = (docCau n k).2 := ⟨_, rfl⟩
      obtain ⟨q, hq⟩ : ∃ q, q = (docCau n k).1.length := ⟨_, rfl⟩
      have Hq := Lib.hid hq
      rw [← hev] at hrf ⊢
      rw [← hq]
      clear hb2 hc2 hr2 hev hq
      go_wp2_with fail
      refine hrf.mono ?_
      clear hrf
      rintro e w3 ⟨v3, rfl, ⟨A3, c3, rfl, hc3, hr3⟩, hb3⟩
      have HB3 := Lib.hid (HB2.out.trans (hb3.mono HB2.out.size))
      have hsa := sameall_T 255 A2 (docCau n k).1 _ c2 A3 _ c3 w3 (Kd.C_below HR2.out hb3) HC2.out hr3 hc3 (docCau_rows n k) (by omega)
      rw [← Hq.out] at hsa ⊢
      clear hb3 hc3 hr3
      go_wp2_with fail
      refine hsa.mono ?_
      clear hsa
      rintro e w4 ⟨rfl, hd4⟩
      have HB4 := Lib.hid (HB3.out.trans (hd4.below.mono HB3.out.size))
      have hun := unit_any n w4
      clear hd4
      go_wp2_with fail
      refine hun.mono ?_
      clear hun
      rintro e w5 ⟨v5, rfl, ⟨A5, c5, rfl, hc5, hr5⟩, hb5⟩
      have HB5 := Lib.hid (HB4.out.trans (hb5.mono HB4.out.size))
      have HC5 := Lib.hid hc5
      have HR5 := Lib.hid hr5
      have hun := ref_unit n w5
      obtain ⟨u, hu⟩ : ∃ u, u = (docUnit n).length := ⟨_, rfl⟩
      have Hu := Lib.hid hu
      rw [← hu]
      clear hb5 hc5 hr5 hu
      go_wp2_with fail
      refine hun.mono ?_
      clear hun
      rintro e w6 ⟨v6, rfl, ⟨A6, c6, rfl, hc6, hr6⟩, hb6⟩
      have HB6 := Lib.hid (HB5.out.trans (hb6.mono HB5.out.size))
      have hsa := sameall_T 255 A5 (docUnit n) _ c5 A6 _ c6 w6 (Kd.C_below HR5.out hb6) HC5.out hr6 hc6 (docUnit_rows n) (by omega)
      rw [← Hu.out] at hsa ⊢
      clear hb6 hc6 hr6
      go_wp2_with fail
      refine hsa.mono ?_
      clear hsa
      rintro e w7 ⟨rfl, hd7⟩
      have HB7 := Lib.hid (HB6.out.trans (hd7.below.mono HB6.out.size))
      clear hd7
      go_wp2_with fail
      go_ret
      exact ⟨rfl, HB7.out⟩
    · go_enter Try.func12, Try.ntmps12
      go_wp2_with fail
      refine (wakes08 _).mono ?_
      rintro e w0 ⟨rfl, hb0⟩
      have HB0 := Lib.hid hb0
      clear hb0
      go_wp2_with fail
      refine (make_calls w0).mono ?_
      rintro e w1 ⟨rfl, ht, hs, hb1⟩
      have HB1 := Lib.hid (HB0.out.trans (hb1.mono HB0.out.size))
      have hca := cauchy_any w0.heap.size n k w1 ht hs
      clear ht hs hb1
      go_wp2_with fail
      refine hca.mono ?_
      clear hca
      rintro e w2 ⟨v2, rfl, ⟨A2, c2, rfl, hc2, hr2⟩, hb2⟩
      have HB2 := Lib.hid (HB1.out.trans (hb2.mono HB1.out.size))
      have HC2 := Lib.hid hc2
      have HR2 := Lib.hid hr2
      have hrf := ref_cauchy n k w2
      obtain ⟨ev, hev⟩ : ∃ ev, ev = (docCau n k).2 := ⟨_, rfl⟩
      obtain ⟨q, hq⟩ : ∃ q, q = (docCau n k).1.length := ⟨_, rfl⟩
      have Hq := Lib.hid hq
      rw [← hev] at hrf ⊢
      rw [← hq]
      clear hb2 hc2 hr2 hev hq
      go_wp2_with fail
      refine hrf.mono ?_
      clear hrf
      rintro e w3 ⟨v3, rfl, ⟨A3, c3, rfl, hc3, hr3⟩, hb3⟩
      have HB3 := Lib.hid (HB2.out.trans (hb3.mono HB2.out.size))
      have hsa := sameall_T 255 A2 (docCau n k).1 _ c2 A3 _ c3 w3 (Kd.C_below HR2.out hb3) HC2.out hr3 hc3 (docCau_rows n k) (by omega)
      rw [← Hq.out] at hsa ⊢
      clear hb3 hc3 hr3
      go_wp2_with fail
      refine hsa.mono ?_
      clear hsa
      rintro e w4 ⟨rfl, hd4⟩
      have HB4 := Lib.hid (HB3.out.trans (hd4.below.mono HB3.out.size))
      have hun := unit_any n w4
      clear hd4
      go_wp2_with fail
      refine hun.mono ?_
      clear hun
      rintro e w5 ⟨v5, rfl, ⟨A5, c5, rfl, hc5, hr5⟩, hb5⟩
      have HB5 := Lib.hid (HB4.out.trans (hb5.mono HB4.out.size))
      have HC5 := Lib.hid hc5
      have HR5 := Lib.hid hr5
      have hun := ref_unit n w5
      obtain ⟨u, hu⟩ : ∃ u, u = (docUnit n).length := ⟨_, rfl⟩
      have Hu := Lib.hid hu
      rw [← hu]
      clear hb5 hc5 hr5 hu
      go_wp2_with fail
      refine hun.mono ?_
      clear hun
      rintro e w6 ⟨v6, rfl, ⟨A6, c6, rfl, hc6, hr6⟩, hb6⟩
      have HB6 := Lib.hid (HB5.out.trans (hb6.mono HB5.out.size))
      have hsa := sameall_T 255 A5 (docUnit n) _ c5 A6 _ c6 w6 (Kd.C_below HR5.out hb6) HC5.out hr6 hc6 (docUnit_rows n) (by omega)
      rw [← Hu.out] at hsa ⊢
      clear hb6 hc6 hr6
      go_wp2_with fail
      refine hsa.mono ?_
      clear hsa
      rintro e w7 ⟨rfl, hd7⟩
      have HB7 := Lib.hid (HB6.out.trans (hd7.below.mono HB6.out.size))
      clear hd7
      go_wp2_with fail
      go_ret
      exact ⟨rfl, HB7.out⟩
    · go_enter Try.func12, Try.ntmps12
      go_wp2_with fail
      refine (wakes08 _).mono ?_
      rintro e w0 ⟨rfl, hb0⟩
      have HB0 := Lib.hid hb0
      clear hb0
      go_wp2_with fail
      go_ret
      exact ⟨rfl, HB0.out⟩
  · rcases H k with s1 | ⟨s1, s2⟩ | ⟨s1, s2⟩
    · go_enter Try.func12, Try.ntmps12
      go_wp2_with fail
      refine (wakes08 _).mono ?_
      rintro e w0 ⟨rfl, hb0⟩
      have HB0 := Lib.hid hb0
      clear hb0
      go_wp2_with fail
      refine (make_calls w0).mono ?_
      rintro e w1 ⟨rfl, ht, hs, hb1⟩
      have HB1 := Lib.hid (HB0.out.trans (hb1.mono HB0.out.size))
      have hca := cauchy_any w0.heap.size n k w1 ht hs
      clear ht hs hb1
      go_wp2_with fail
      refine hca.mono ?_
      clear hca
      rintro e w2 ⟨v2, rfl, ⟨A2, c2, rfl, hc2, hr2⟩, hb2⟩
      have HB2 := Lib.hid (HB1.out.trans (hb2.mono HB1.out.size))
      have HC2 := Lib.hid hc2
      have HR2 := Lib.hid hr2
      have hrf := ref_cauchy n k w2
      obtain ⟨ev, hev⟩ : ∃ ev, ev = (docCau n k).2 := ⟨_, rfl⟩
      obtain ⟨q, hq⟩ : ∃ q, q = (docCau n k).1.length := ⟨_, rfl⟩
      have Hq := Lib.hid hq
      rw [← hev] at hrf ⊢
      rw [← hq]
      clear hb2 hc2 hr2 hev hq
      go_wp2_with fail
      refine hrf.mono ?_
      clear hrf
      rintro e w3 ⟨v3, rfl, ⟨A3, c3, rfl, hc3, hr3⟩, hb3⟩
      have HB3 := Lib.hid (HB2.out.trans (hb3.mono HB2.out.size))
      have hsa := sameall_T 255 A2 (docCau n k).1 _ c2 A3 _ c3 w3 (Kd.C_below HR2.out hb3) HC2.out hr3 hc3 (docCau_rows n k) (by omega)
      rw [← Hq.out] at hsa ⊢
      clear hb3 hc3 hr3
      go_wp2_with fail
      refine hsa.mono ?_
      clear hsa
      rintro e w4 ⟨rfl, hd4⟩
      have HB4 := Lib.hid (HB3.out.trans (hd4.below.mono HB3.out.size))
      have hun := unit_any n w4
      clear hd4
      go_wp2_with fail
      refine hun.mono ?_
      clear hun
      rintro e w5 ⟨v5, rfl, ⟨A5, c5, rfl, hc5, hr5⟩, hb5⟩
      have HB5 := Lib.hid (HB4.out.trans (hb5.mono HB4.out.size))
      have HC5 := Lib.hid hc5
      have HR5 := Lib.hid hr5
      have hun := ref_unit n w5
      obtain ⟨u, hu⟩ : ∃ u, u = (docUnit n).length := ⟨_, rfl⟩
      have Hu := Lib.hid hu
      rw [← hu]
      clear hb5 hc5 hr5 hu
      go_wp2_with fail
      refine hun.mono ?_
      clear hun
      rintro e w6 ⟨v6, rfl, ⟨A6, c6, rfl, hc6, hr6⟩, hb6⟩
      have HB6 := Lib.hid (HB5.out.trans (hb6.mono HB5.out.size))
      have hsa := sameall_T 255 A5 (docUnit n) _ c5 A6 _ c6 w6 (Kd.C_below HR5.out hb6) HC5.out hr6 hc6 (docUnit_rows n) (by omega)
      rw [← Hu.out] at hsa ⊢
      clear hb6 hc6 hr6
      go_wp2_with fail
      refine hsa.mono ?_
      clear hsa
      rintro e w7 ⟨rfl, hd7⟩
      have HB7 := Lib.hid (HB6.out.trans (hd7.below.mono HB6.out.size))
      clear hd7
      go_wp2_with fail
      go_ret
      exact ⟨rfl, HB7.out⟩
    · go_enter Try.func12, Try.ntmps12
      go_wp2_with fail
      refine (wakes08 _).mono ?_
      rintro e w0 ⟨rfl, hb0⟩
      have HB0 := Lib.hid hb0
      clear hb0
      go_wp2_with fail
      refine (make_calls w0).mono ?_
      rintro e w1 ⟨rfl, ht, hs, hb1⟩
      have HB1 := Lib.hid (HB0.out.trans (hb1.mono HB0.out.size))
      have hca := cauchy_any w0.heap.size n k w1 ht hs
      clear ht hs hb1
      go_wp2_with fail
      refine hca.mono ?_
      clear hca
      rintro e w2 ⟨v2, rfl, ⟨A2, c2, rfl, hc2, hr2⟩, hb2⟩
      have HB2 := Lib.hid (HB1.out.trans (hb2.mono HB1.out.size))
      have HC2 := Lib.hid hc2
      have HR2 := Lib.hid hr2
      have hrf := ref_cauchy n k w2
      obtain ⟨ev, hev⟩ : ∃ ev, ev = (docCau n k).2 := ⟨_, rfl⟩
      obtain ⟨q, hq⟩ : ∃ q, q = (docCau n k).1.length := ⟨_, rfl⟩
      have Hq := Lib.hid hq
      rw [← hev] at hrf ⊢
      rw [← hq]
      clear hb2 hc2 hr2 hev hq
      go_wp2_with fail
      refine hrf.mono ?_
      clear hrf
      rintro e w3 ⟨v3, rfl, ⟨A3, c3, rfl, hc3, hr3⟩, hb3⟩
      have HB3 := Lib.hid (HB2.out.trans (hb3.mono HB2.out.size))
      have hsa := sameall_T 255 A2 (docCau n k).1 _ c2 A3 _ c3 w3 (Kd.C_below HR2.out hb3) HC2.out hr3 hc3 (docCau_rows n k) (by omega)
      rw [← Hq.out] at hsa ⊢
      clear hb3 hc3 hr3
      go_wp2_with fail
      refine hsa.mono ?_
      clear hsa
      rintro e w4 ⟨rfl, hd4⟩
      have HB4 := Lib.hid (HB3.out.trans (hd4.below.mono HB3.out.size))
      have hun := unit_any n w4
      clear hd4
      go_wp2_with fail
      refine hun.mono ?_
      clear hun
      rintro e w5 ⟨v5, rfl, ⟨A5, c5, rfl, hc5, hr5⟩, hb5⟩
      have HB5 := Lib.hid (HB4.out.trans (hb5.mono HB4.out.size))
      have HC5 := Lib.hid hc5
      have HR5 := Lib.hid hr5
      have hun := ref_unit n w5
      obtain ⟨u, hu⟩ : ∃ u, u = (docUnit n).length := ⟨_, rfl⟩
      have Hu := Lib.hid hu
      rw [← hu]
      clear hb5 hc5 hr5 hu
      go_wp2_with fail
      refine hun.mono ?_
      clear hun
      rintro e w6 ⟨v6, rfl, ⟨A6, c6, rfl, hc6, hr6⟩, hb6⟩
      have HB6 := Lib.hid (HB5.out.trans (hb6.mono HB5.out.size))
      have hsa := sameall_T 255 A5 (docUnit n) _ c5 A6 _ c6 w6 (Kd.C_below HR5.out hb6) HC5.out hr6 hc6 (docUnit_rows n) (by omega)
      rw [← Hu.out] at hsa ⊢
      clear hb6 hc6 hr6
      go_wp2_with fail
      refine hsa.mono ?_
      clear hsa
      rintro e w7 ⟨rfl, hd7⟩
      have HB7 := Lib.hid (HB6.out.trans (hd7.below.mono HB6.out.size))
      clear hd7
      go_wp2_with fail
      go_ret
      exact ⟨rfl, HB7.out⟩
    · go_enter Try.func12, Try.ntmps12
      go_wp2_with fail
      refine (wakes08 _).mono ?_
      rintro e w0 ⟨rfl, hb0⟩
      have HB0 := Lib.hid hb0
      clear hb0
      go_wp2_with fail
      go_ret
      exact ⟨rfl, HB0.out⟩
  · go_enter Try.func12, Try.ntmps12
    go_wp2_with fail
    refine (wakes08 _).mono ?_
    rintro e w0 ⟨rfl, hb0⟩
    have HB0 := Lib.hid hb0
    clear hb0
    go_wp2_with fail
    go_ret
    exact ⟨rfl, HB0.out⟩
end Go.Proofs.Ytoijjlpkoniipaa
