/- The law MatrixMul. -/
import Derived.Test.YtoijjlpkoniipaaCalls08
set_option linter.unusedVariables false
set_option linter.unusedSimpArgs false
namespace Go.Proofs.Ytoijjlpkoniipaa
open Go.RowKit Go.Proofs.YtoijjlpkoniipaaW.PrintWords Go.Proofs.YtoijjlpkoniipaaW.PrintLast Gf Lin
theorem docMM_rows {a b : List (List UInt8)} : PRsEncode.Rowsle (docMM a b).1 255 := by
  by_cases hf : Fit a b
  · rw [docMM_ok hf]
    intro r hr
    simp only [prod, rowsOf, List.mem_map] at hr
    obtain ⟨i, _, rfl⟩ := hr
    simpa using hf.rb.c2
  · rw [docMM_no hf]; intro r hr; cases hr
set_option maxHeartbeats 2000000 in
set_option maxRecDepth 100000 in
theorem MatrixMul_walk (w : World) (A : Option Addr) (a : List (List UInt8)) (ca : Nat) (hca : a.length ≤ ca) (hra : KBB.C w A a.length (bss a)) (B : Option Addr) (b : List (List UInt8)) (cb : Nat) (hcb : b.length ≤ cb) (hrb : KBB.C w B b.length (bss b)) :
    Calls Try.prog 14 #[.slice A a.length ca, .slice B b.length cb] w fun e w' => e = .returned (.bool true) ∧ Below w.heap.size w w' := by
  have HRA := Lib.hid hra
  have HRB := Lib.hid hrb
  have HCA := Lib.hid hca
  have HCB := Lib.hid hcb
  obtain ⟨n, hn⟩ : ∃ n, n = a.length := ⟨_, rfl⟩
  obtain ⟨k, hk⟩ : ∃ k, k = b.length := ⟨_, rfl⟩
  have Hn := Lib.hid hn
  have Hk := Lib.hid hk
  rw [← hn, ← hk]
  clear hra hrb hca hcb hn hk
  go_enter Try.func14, Try.ntmps14
  go_wp2_with fail
  refine (wakes08 _).mono ?_
  rintro e w0 ⟨rfl, hb0⟩
  have HB0 := Lib.hid hb0
  clear hb0
  go_wp2_with fail
  have hl1 := long08 A a ca w0 (Kd.C_below HRA.out HB0.out) HCA.out
  have hl2 : ∀ w1, Below w.heap.size w w1 → _ := fun w1 h => long08 B b cb w1 (Kd.C_below HRB.out h) HCB.out
  rw [← Hn.out] at hl1
  rw [← Hk.out] at hl2
  cases hla : PRsEncode.isLong a 8 8 with
  | true =>
    rw [hla] at hl1
    clear hla hl2
    refine hl1.mono ?_
    clear hl1
    rintro e w1 ⟨rfl, hd1⟩
    have HB1 := Lib.hid (HB0.out.trans (hd1.below.mono HB0.out.size))
    clear hd1
    go_wp2_with fail
    go_ret
    exact ⟨rfl, HB1.out⟩
  | false =>
    rw [hla] at hl1
    have HLA := Lib.hid (PRsEncode.isLong_false hla)
    clear hla
    refine hl1.mono ?_
    clear hl1
    rintro e w1 ⟨rfl, hd1⟩
    have HB1 := Lib.hid (HB0.out.trans (hd1.below.mono HB0.out.size))
    have hl3 := hl2 w1 HB1.out
    clear hd1 hl2
    go_wp2_with fail
    cases hlb : PRsEncode.isLong b 8 8 with
    | true =>
      rw [hlb] at hl3
      clear hlb
      refine hl3.mono ?_
      clear hl3
      rintro e w2 ⟨rfl, hd2⟩
      have HB2 := Lib.hid (HB1.out.trans (hd2.below.mono HB1.out.size))
      clear hd2
      go_wp2_with fail
      go_ret
      exact ⟨rfl, HB2.out⟩
    | false =>
      rw [hlb] at hl3
      have HLB := Lib.hid (PRsEncode.isLong_false hlb)
      clear hlb
      refine hl3.mono ?_
      clear hl3
      rintro e w2 ⟨rfl, hd2⟩
      have HB2 := Lib.hid (HB1.out.trans (hd2.below.mono HB1.out.size))
      have hcp := ref_copy A a ca w2 (Kd.C_below HRA.out HB2.out) HCA.out (by have := HLA.out.1; omega) (fun r hr => by have := HLA.out.2 r hr; omega)
      rw [← Hn.out] at hcp
      clear hd2
      go_wp2_with fail
      refine hcp.mono ?_
      clear hcp
      rintro e w3 ⟨A3, c3, rfl, hc3, hr3, hb3⟩
      have HB3 := Lib.hid (HB2.out.trans (hb3.mono HB2.out.size))
      have hcp := ref_copy B b cb w3 (Kd.C_below HRB.out HB3.out) HCB.out (by have := HLB.out.1; omega) (fun r hr => by have := HLB.out.2 r hr; omega)
      rw [← Hk.out] at hcp
      have HR3 := Lib.hid hr3
      have HC3 := Lib.hid hc3
      clear hb3 hr3 hc3
      go_wp2_with fail
      refine hcp.mono ?_
      clear hcp
      rintro e w4 ⟨B4, c4, rfl, hc4, hr4, hb4⟩
      have HB4 := Lib.hid (HB3.out.trans (hb4.mono HB3.out.size))
      have HX4 := Lib.hid (Kd.C_below HR3.out hb4)
      have HY4 := Lib.hid hr4
      have HC4 := Lib.hid hc4
      clear hb4 hr4 hc4 HR3
      go_wp2_with fail
      refine (make_calls w4).mono ?_
      rintro e w5 ⟨rfl, ht5, hs5, hb5⟩
      have HB5 := Lib.hid (HB4.out.trans (hb5.mono HB4.out.size))
      have hmm := mmul_any w4.heap.size A3 a c3 B4 b c4 w5 ht5 hs5 (by have := Kd.C_below HX4.out hb5; rwa [Hn.out] at this) (by have := HC3.out; have := Hn.out; omega) (by have := Kd.C_below HY4.out hb5; rwa [Hk.out] at this) (by have := HC4.out; have := Hk.out; omega)
      rw [← Hn.out, ← Hk.out] at hmm
      have HX5 := Lib.hid (Kd.C_below HX4.out hb5)
      have HY5 := Lib.hid (Kd.C_below HY4.out hb5)
      clear ht5 hs5 hb5 HX4 HY4
      go_wp2_with fail
      refine hmm.mono ?_
      clear hmm
      rintro e w6 ⟨v6, rfl, ⟨A6, c6, rfl, hc6, hr6⟩, hb6⟩
      have HB6 := Lib.hid (HB5.out.trans (hb6.mono HB5.out.size))
      have HX6 := Lib.hid (Kd.C_below HX5.out hb6)
      have HY6 := Lib.hid (Kd.C_below HY5.out hb6)
      have HC6 := Lib.hid hc6
      have HR6 := Lib.hid hr6
      have hmm := ref_mmul A a ca B b cb w6 (Kd.C_below HRA.out HB6.out) HCA.out (Kd.C_below HRB.out HB6.out) HCB.out
      rw [← Hn.out, ← Hk.out] at hmm
      clear hb6 hc6 hr6 HX5 HY5
      obtain ⟨ev, hev⟩ : ∃ ev, ev = (docMM a b).2 := ⟨_, rfl⟩
      obtain ⟨q, hq⟩ : ∃ q, q = (docMM a b).1.length := ⟨_, rfl⟩
      have Hq := Lib.hid hq
      rw [← hev] at hmm ⊢
      rw [← hq]
      clear hev hq
      go_wp2_with fail
      refine hmm.mono ?_
      clear hmm
      rintro e w7 ⟨v7, rfl, ⟨A7, c7, rfl, hc7, hr7⟩, hb7⟩
      have HB7 := Lib.hid (HB6.out.trans (hb7.mono HB6.out.size))
      have HX7 := Lib.hid (Kd.C_below HX6.out hb7)
      have HY7 := Lib.hid (Kd.C_below HY6.out hb7)
      have hs7 := sameall_T 255 A6 (docMM a b).1 _ c6 A7 _ c7 w7 (Kd.C_below HR6.out hb7) HC6.out hr7 hc7 docMM_rows (by omega)
      rw [← Hq.out] at hs7 ⊢
      clear hb7 hc7 hr7 HX6 HY6
      go_wp2_with fail
      refine hs7.mono ?_
      clear hs7
      rintro e w8 ⟨rfl, hd8⟩
      have HB8 := Lib.hid (HB7.out.trans (hd8.below.mono HB7.out.size))
      have HX8 := Lib.hid (Kd.C_below HX7.out hd8.below)
      have HY8 := Lib.hid (Kd.C_below HY7.out hd8.below)
      have hri := right_calls A a ca w8 (Kd.C_below HRA.out HB8.out)
      rw [← Hn.out] at hri
      clear hd8 HX7 HY7
      go_wp2_with fail
      refine hri.mono ?_
      clear hri
      rintro e w9 ⟨b9, rfl, rfl, hb9⟩
      have hri := ref_right A a ca w9 (Kd.C_below HRA.out HB8.out) HCA.out
      rw [← Hn.out] at hri
      have H9 := Lib.hid hb9
      clear hb9
      go_wp2_with fail
      refine hri.mono ?_
      clear hri
      rintro e w10 ⟨b10, rfl, hb10, hd10⟩
      obtain rfl : b9 = b10 := Bool.eq_iff_iff.2 (H9.out.trans hb10.symm)
      have HB10 := Lib.hid (HB8.out.trans (hd10.below.mono HB8.out.size))
      have HX10 := Lib.hid (Kd.C_below HX8.out hd10.below)
      have HY10 := Lib.hid (Kd.C_below HY8.out hd10.below)
      have hs := sameall_T 8 A3 a _ c3 A _ ca w10 HX10.out HC3.out (by have := Kd.C_below HRA.out HB10.out; rwa [← Hn.out] at this) (by have := HCA.out; have := Hn.out; omega) HLA.out.2 (by omega)
      clear hb10 hd10 H9 HX8 HY8
      go_wp2_with fail
      refine hs.mono ?_
      clear hs
      rintro e w11 ⟨rfl, hd11⟩
      have HB11 := Lib.hid (HB10.out.trans (hd11.below.mono HB10.out.size))
      have hs := sameall_T 8 B4 b _ c4 B _ cb w11 (Kd.C_below HY10.out hd11.below) HC4.out (by have := Kd.C_below HRB.out HB11.out; rwa [← Hk.out] at this) (by have := HCB.out; have := Hk.out; omega) HLB.out.2 (by omega)
      clear hd11 HX10 HY10
      go_wp2_with fail
      refine hs.mono ?_
      clear hs
      rintro e w12 ⟨rfl, hd12⟩
      have HB12 := Lib.hid (HB11.out.trans (hd12.below.mono HB11.out.size))
      clear hd12
      go_wp2_with fail
      go_ret
      exact ⟨rfl, HB12.out⟩
end Go.Proofs.Ytoijjlpkoniipaa
