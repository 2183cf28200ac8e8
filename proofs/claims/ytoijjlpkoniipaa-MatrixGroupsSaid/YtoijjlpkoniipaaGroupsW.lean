/- The law MatrixGroups. -/
import Derived.Test.YtoijjlpkoniipaaReads
set_option linter.unusedVariables false
set_option linter.unusedSimpArgs false
namespace Go.Proofs.Ytoijjlpkoniipaa
open Go.RowKit Go.Proofs.YtoijjlpkoniipaaW.PrintWords Go.Proofs.YtoijjlpkoniipaaW.PrintLast Gf Lin
set_option maxHeartbeats 4000000 in
set_option maxRecDepth 100000 in
theorem MatrixGroups_walk (w : World) (A : Option Addr) (a : List (List UInt8)) (ca : Nat) (hca : a.length ≤ ca) (hra : KBB.C w A a.length (bss a)) (B : Option Addr) (b : List (List UInt8)) (cb : Nat) (hcb : b.length ≤ cb) (hrb : KBB.C w B b.length (bss b)) (C : Option Addr) (c : List (List UInt8)) (cc : Nat) (hcc : c.length ≤ cc) (hrc : KBB.C w C c.length (bss c)) :
    Calls Try.prog 15 #[.slice A a.length ca, .slice B b.length cb, .slice C c.length cc] w fun e w' => e = .returned (.bool true) ∧ Below w.heap.size w w' := by
  have RA := Lib.hid (RD.mk hca hra)
  have RB_ := Lib.hid (RD.mk hcb hrb)
  have RC := Lib.hid (RD.mk hcc hrc)
  obtain ⟨n, hn⟩ : ∃ n, n = a.length := ⟨_, rfl⟩
  obtain ⟨k, hk⟩ : ∃ k, k = b.length := ⟨_, rfl⟩
  obtain ⟨m, hm⟩ : ∃ m, m = c.length := ⟨_, rfl⟩
  rw [← hn] at RA ⊢
  rw [← hk] at RB_ ⊢
  rw [← hm] at RC ⊢
  have HN := Lib.hid hn
  have HK := Lib.hid hk
  have HM := Lib.hid hm
  clear hca hra hcb hrb hcc hrc hn hk hm
  go_enter Try.func15, Try.ntmps15
  go_wp2_with fail
  have hcl := wakes08 w
  refine hcl.mono ?_
  clear hcl
  rintro e w1_ ⟨rfl, hbel⟩
  have HB := Lib.hid hbel
  replace RA := Lib.hid (RA.out.below hbel)
  replace RB_ := Lib.hid (RB_.out.below hbel)
  replace RC := Lib.hid (RC.out.below hbel)
  clear hbel
  have hcl := long8_R RA.out
  go_wp2_with fail
  refine hcl.mono ?_
  clear hcl
  rintro e w2_ ⟨b_, rfl, hbe, hbel⟩
  replace HB := Lib.hid (bthen HB.out hbel)
  replace RA := Lib.hid (RA.out.below hbel)
  replace RB_ := Lib.hid (RB_.out.below hbel)
  replace RC := Lib.hid (RC.out.below hbel)
  clear hbel
  cases hl : PRsEncode.isLong a 8 8 with
  | true =>
    rw [hl] at hbe
    subst hbe
    clear hl
    go_wp2_with fail
    go_ret
    exact ⟨rfl, HB.out⟩
  | false =>
    rw [hl] at hbe
    subst hbe
    have LRA := Lib.hid (PRsEncode.isLong_false hl)
    clear hl
    have hcl := long8_R RB_.out
    go_wp2_with fail
    refine hcl.mono ?_
    clear hcl
    rintro e w3_ ⟨b_, rfl, hbe, hbel⟩
    replace HB := Lib.hid (bthen HB.out hbel)
    replace RA := Lib.hid (RA.out.below hbel)
    replace RB_ := Lib.hid (RB_.out.below hbel)
    replace RC := Lib.hid (RC.out.below hbel)
    clear hbel
    cases hl : PRsEncode.isLong b 8 8 with
    | true =>
      rw [hl] at hbe
      subst hbe
      clear hl
      go_wp2_with fail
      go_ret
      exact ⟨rfl, HB.out⟩
    | false =>
      rw [hl] at hbe
      subst hbe
      have LRB_ := Lib.hid (PRsEncode.isLong_false hl)
      clear hl
      have hcl := long8_R RC.out
      go_wp2_with fail
      refine hcl.mono ?_
      clear hcl
      rintro e w4_ ⟨b_, rfl, hbe, hbel⟩
      replace HB := Lib.hid (bthen HB.out hbel)
      replace RA := Lib.hid (RA.out.below hbel)
      replace RB_ := Lib.hid (RB_.out.below hbel)
      replace RC := Lib.hid (RC.out.below hbel)
      clear hbel
      cases hl : PRsEncode.isLong c 8 8 with
      | true =>
        rw [hl] at hbe
        subst hbe
        clear hl
        go_wp2_with fail
        go_ret
        exact ⟨rfl, HB.out⟩
      | false =>
        rw [hl] at hbe
        subst hbe
        have LRC := Lib.hid (PRsEncode.isLong_false hl)
        clear hl
        have hcl := rright_R RA.out
        go_wp2_with fail
        refine hcl.mono ?_
        clear hcl
        rintro e w5_ ⟨b_, rfl, hbe, hbel⟩
        replace HB := Lib.hid (bthen HB.out hbel)
        replace RA := Lib.hid (RA.out.below hbel)
        replace RB_ := Lib.hid (RB_.out.below hbel)
        replace RC := Lib.hid (RC.out.below hbel)
        clear hbel
        by_cases hr : Rgt a
        rotate_left
        · obtain rfl := not_rgt_bool hbe hr
          clear hbe hr
          go_wp2_with fail
          go_ret
          exact ⟨rfl, HB.out⟩
        obtain rfl : b_ = true := hbe.2 hr
        have GRA := Lib.hid hr
        clear hbe hr
        have hcl := rright_R RB_.out
        go_wp2_with fail
        refine hcl.mono ?_
        clear hcl
        rintro e w6_ ⟨b_, rfl, hbe, hbel⟩
        replace HB := Lib.hid (bthen HB.out hbel)
        replace RA := Lib.hid (RA.out.below hbel)
        replace RB_ := Lib.hid (RB_.out.below hbel)
        replace RC := Lib.hid (RC.out.below hbel)
        clear hbel
        by_cases hr : Rgt b
        rotate_left
        · obtain rfl := not_rgt_bool hbe hr
          clear hbe hr
          go_wp2_with fail
          go_ret
          exact ⟨rfl, HB.out⟩
        obtain rfl : b_ = true := hbe.2 hr
        have GRB_ := Lib.hid hr
        clear hbe hr
        have hcl := rright_R RC.out
        go_wp2_with fail
        refine hcl.mono ?_
        clear hcl
        rintro e w7_ ⟨b_, rfl, hbe, hbel⟩
        replace HB := Lib.hid (bthen HB.out hbel)
        replace RA := Lib.hid (RA.out.below hbel)
        replace RB_ := Lib.hid (RB_.out.below hbel)
        replace RC := Lib.hid (RC.out.below hbel)
        clear hbel
        by_cases hr : Rgt c
        rotate_left
        · obtain rfl := not_rgt_bool hbe hr
          clear hbe hr
          go_wp2_with fail
          go_ret
          exact ⟨rfl, HB.out⟩
        obtain rfl : b_ = true := hbe.2 hr
        have GRC := Lib.hid hr
        clear hbe hr
        obtain ⟨ad_, B_, cB_, rfl, hcell, _⟩ := RA.out.row0 (by have := RA.out.len; have := GRA.out.n1; omega)
        have i0 : (0 : Int) < (n : Int) := by have := RA.out.len; have := GRA.out.n1; omega
        obtain ⟨l_, hl_⟩ : ∃ l_, l_ = (gr a 0).length := ⟨_, rfl⟩
        rw [← hl_] at hcell
        by_cases hlk : l_ = k
        rotate_left
        · have t1 : ((l_ : Int) != (k : Int)) = true := by simp; omega
          clear hl_ hlk
          go_wp2_with fail
          go_ret
          exact ⟨rfl, HB.out⟩
        have FRA : Hid (Fit a b) := Lib.hid ⟨GRA.out, GRB_.out, by rw [← hl_, hlk, HK.out]⟩
        have t1 : ((l_ : Int) != (k : Int)) = false := by rw [hlk]; simp
        clear hl_ hlk
        obtain ⟨ad2, B2, cB2, rfl, hcell2, _⟩ := RB_.out.row0 (by have := RB_.out.len; have := GRB_.out.n1; omega)
        have i1 : (0 : Int) < (k : Int) := by have := RB_.out.len; have := GRB_.out.n1; omega
        obtain ⟨l2, hl2⟩ : ∃ l2, l2 = (gr b 0).length := ⟨_, rfl⟩
        rw [← hl2] at hcell2
        by_cases hlk : l2 = m
        rotate_left
        · have t2 : ((l2 : Int) != (m : Int)) = true := by simp; omega
          clear hl2 hlk
          go_wp2_with fail
          go_ret
          exact ⟨rfl, HB.out⟩
        have FRB : Hid (Fit b c) := Lib.hid ⟨GRB_.out, GRC.out, by rw [← hl2, hlk, HM.out]⟩
        have t2 : ((l2 : Int) != (m : Int)) = false := by rw [hlk]; simp
        clear hl2 hlk
        have hcl := make_R w7_
        go_wp2_with fail
        refine hcl.mono ?_
        clear hcl
        rintro e w8_ ⟨gt, rfl, ht, hbel⟩
        replace HB := Lib.hid (bthen HB.out hbel)
        replace RA := Lib.hid (RA.out.below hbel)
        replace RB_ := Lib.hid (RB_.out.below hbel)
        replace RC := Lib.hid (RC.out.below hbel)
        have T := Lib.hid ht
        clear ht hbel
        clear t1 t2 i1 hcell2 hcell
        have hcl := mmul_R T.out RA.out RB_.out
        go_wp2_with fail
        refine hcl.mono ?_
        clear hcl
        rintro e w9_ ⟨DAB, sAB, dAB, evAB, rfl, hev, hr, hbel⟩
        replace HB := Lib.hid (bthen HB.out hbel)
        replace RA := Lib.hid (RA.out.below hbel)
        replace RB_ := Lib.hid (RB_.out.below hbel)
        replace RC := Lib.hid (RC.out.below hbel)
        replace T := Lib.hid (T.out.below hbel)
        clear hbel
        rw [docMM_ok FRA.out] at hev hr
        have hev : evAB = 0 := hev
        subst hev
        have AB := Lib.hid hr
        clear hr
        have hcl := mmul_R T.out RB_.out RC.out
        go_wp2_with fail
        refine hcl.mono ?_
        clear hcl
        rintro e w10_ ⟨DBC, sBC, dBC, evBC, rfl, hev, hr, hbel⟩
        replace HB := Lib.hid (bthen HB.out hbel)
        replace RA := Lib.hid (RA.out.below hbel)
        replace RB_ := Lib.hid (RB_.out.below hbel)
        replace RC := Lib.hid (RC.out.below hbel)
        replace T := Lib.hid (T.out.below hbel)
        replace AB := Lib.hid (AB.out.below hbel)
        clear hbel
        rw [docMM_ok FRB.out] at hev hr
        have hev : evBC = 0 := hev
        subst hev
        have BC := Lib.hid hr
        clear hr
        have hcl := mmul_R T.out AB.out RC.out
        go_wp2_with fail
        refine hcl.mono ?_
        clear hcl
        rintro e w11_ ⟨DX, sX, dX, evX, rfl, hev, hr, hbel⟩
        replace HB := Lib.hid (bthen HB.out hbel)
        replace RA := Lib.hid (RA.out.below hbel)
        replace RB_ := Lib.hid (RB_.out.below hbel)
        replace RC := Lib.hid (RC.out.below hbel)
        replace T := Lib.hid (T.out.below hbel)
        replace AB := Lib.hid (AB.out.below hbel)
        replace BC := Lib.hid (BC.out.below hbel)
        clear hbel
        rw [docMM_ok (prod_fit_left FRA.out FRB.out)] at hev hr
        have hev : evX = 0 := hev
        subst hev
        have X := Lib.hid hr
        clear hr
        rw [prod_assoc FRA.out FRB.out] at X
        have hcl := mmul_R T.out RA.out BC.out
        go_wp2_with fail
        refine hcl.mono ?_
        clear hcl
        rintro e w12_ ⟨DY, sY, dY, evY, rfl, hev, hr, hbel⟩
        replace HB := Lib.hid (bthen HB.out hbel)
        replace RA := Lib.hid (RA.out.below hbel)
        replace RB_ := Lib.hid (RB_.out.below hbel)
        replace RC := Lib.hid (RC.out.below hbel)
        replace T := Lib.hid (T.out.below hbel)
        replace AB := Lib.hid (AB.out.below hbel)
        replace BC := Lib.hid (BC.out.below hbel)
        replace X := Lib.hid (X.out.below hbel)
        clear hbel
        rw [docMM_ok (prod_fit_right FRA.out FRB.out)] at hev hr
        have hev : evY = 0 := hev
        subst hev
        have Y := Lib.hid hr
        clear hr
        have hcl := unit_R (n : Int) w12_
        go_wp2_with fail
        refine hcl.mono ?_
        clear hcl
        rintro e w13_ ⟨DU, sU, dU, rfl, hr, hbel⟩
        replace HB := Lib.hid (bthen HB.out hbel)
        replace RA := Lib.hid (RA.out.below hbel)
        replace RB_ := Lib.hid (RB_.out.below hbel)
        replace RC := Lib.hid (RC.out.below hbel)
        replace T := Lib.hid (T.out.below hbel)
        replace AB := Lib.hid (AB.out.below hbel)
        replace BC := Lib.hid (BC.out.below hbel)
        replace X := Lib.hid (X.out.below hbel)
        replace Y := Lib.hid (Y.out.below hbel)
        have U := Lib.hid hr
        clear hr hbel
        rw [HN.out] at U
        have hcl := mmul_R T.out U.out RA.out
        go_wp2_with fail
        refine hcl.mono ?_
        clear hcl
        rintro e w14_ ⟨DP, sP, dP, evP, rfl, hev, hr, hbel⟩
        replace HB := Lib.hid (bthen HB.out hbel)
        replace RA := Lib.hid (RA.out.below hbel)
        replace RB_ := Lib.hid (RB_.out.below hbel)
        replace RC := Lib.hid (RC.out.below hbel)
        replace T := Lib.hid (T.out.below hbel)
        replace AB := Lib.hid (AB.out.below hbel)
        replace BC := Lib.hid (BC.out.below hbel)
        replace X := Lib.hid (X.out.below hbel)
        replace Y := Lib.hid (Y.out.below hbel)
        replace U := Lib.hid (U.out.below hbel)
        clear hbel
        rw [docMM_ok (unit_fit_left GRA.out)] at hev hr
        have hev : evP = 0 := hev
        subst hev
        have P := Lib.hid hr
        clear hr
        rw [unit_prod GRA.out] at P
        obtain ⟨ad3, B3, cB3, hq, hcell, _⟩ := RA.out.row0 (by have := RA.out.len; have := GRA.out.n1; omega)
        cases hq
        obtain ⟨u, hu⟩ : ∃ u, u = (gr a 0).length := ⟨_, rfl⟩
        rw [← hu] at hcell
        have HU := Lib.hid hu
        clear hu
        have hcl := unit_R (u : Int) w14_
        go_wp2_with fail
        refine hcl.mono ?_
        clear hcl
        rintro e w15_ ⟨DV, sV, dV, rfl, hr, hbel⟩
        replace HB := Lib.hid (bthen HB.out hbel)
        replace RA := Lib.hid (RA.out.below hbel)
        replace RB_ := Lib.hid (RB_.out.below hbel)
        replace RC := Lib.hid (RC.out.below hbel)
        replace T := Lib.hid (T.out.below hbel)
        replace AB := Lib.hid (AB.out.below hbel)
        replace BC := Lib.hid (BC.out.below hbel)
        replace X := Lib.hid (X.out.below hbel)
        replace Y := Lib.hid (Y.out.below hbel)
        replace U := Lib.hid (U.out.below hbel)
        replace P := Lib.hid (P.out.below hbel)
        have V := Lib.hid hr
        clear hr hbel
        rw [HU.out] at V
        clear hcell
        have hcl := mmul_R T.out RA.out V.out
        go_wp2_with fail
        refine hcl.mono ?_
        clear hcl
        rintro e w16_ ⟨DQ, sQ, dQ, evQ, rfl, hev, hr, hbel⟩
        replace HB := Lib.hid (bthen HB.out hbel)
        replace RA := Lib.hid (RA.out.below hbel)
        replace RB_ := Lib.hid (RB_.out.below hbel)
        replace RC := Lib.hid (RC.out.below hbel)
        replace T := Lib.hid (T.out.below hbel)
        replace AB := Lib.hid (AB.out.below hbel)
        replace BC := Lib.hid (BC.out.below hbel)
        replace X := Lib.hid (X.out.below hbel)
        replace Y := Lib.hid (Y.out.below hbel)
        replace U := Lib.hid (U.out.below hbel)
        replace P := Lib.hid (P.out.below hbel)
        replace V := Lib.hid (V.out.below hbel)
        clear hbel
        rw [docMM_ok (unit_fit_right GRA.out)] at hev hr
        have hev : evQ = 0 := hev
        subst hev
        have Q := Lib.hid hr
        clear hr
        rw [prod_unit GRA.out] at Q
        have hpr : PRsEncode.Rowsle (docMM a (prod b c)).1 255 := docMM_rowsle
        rw [docMM_ok (prod_fit_right FRA.out FRB.out)] at hpr
        have HPR := Lib.hid hpr
        clear hpr
        have hcl := sameall_R X.out Y.out 255 HPR.out (by omega)
        go_wp2_with fail
        refine hcl.mono ?_
        clear hcl
        rintro e w17_ ⟨rfl, hbel⟩
        replace HB := Lib.hid (bthen HB.out hbel)
        replace RA := Lib.hid (RA.out.below hbel)
        replace RB_ := Lib.hid (RB_.out.below hbel)
        replace RC := Lib.hid (RC.out.below hbel)
        replace T := Lib.hid (T.out.below hbel)
        replace AB := Lib.hid (AB.out.below hbel)
        replace BC := Lib.hid (BC.out.below hbel)
        replace X := Lib.hid (X.out.below hbel)
        replace Y := Lib.hid (Y.out.below hbel)
        replace U := Lib.hid (U.out.below hbel)
        replace P := Lib.hid (P.out.below hbel)
        replace V := Lib.hid (V.out.below hbel)
        replace Q := Lib.hid (Q.out.below hbel)
        clear hbel
        have hcl := sameall_R P.out RA.out 8 LRA.out.2 (by omega)
        go_wp2_with fail
        refine hcl.mono ?_
        clear hcl
        rintro e w18_ ⟨rfl, hbel⟩
        replace HB := Lib.hid (bthen HB.out hbel)
        replace RA := Lib.hid (RA.out.below hbel)
        replace RB_ := Lib.hid (RB_.out.below hbel)
        replace RC := Lib.hid (RC.out.below hbel)
        replace T := Lib.hid (T.out.below hbel)
        replace AB := Lib.hid (AB.out.below hbel)
        replace BC := Lib.hid (BC.out.below hbel)
        replace X := Lib.hid (X.out.below hbel)
        replace Y := Lib.hid (Y.out.below hbel)
        replace U := Lib.hid (U.out.below hbel)
        replace P := Lib.hid (P.out.below hbel)
        replace V := Lib.hid (V.out.below hbel)
        replace Q := Lib.hid (Q.out.below hbel)
        clear hbel
        have hcl := sameall_R Q.out RA.out 8 LRA.out.2 (by omega)
        go_wp2_with fail
        refine hcl.mono ?_
        clear hcl
        rintro e w19_ ⟨rfl, hbel⟩
        replace HB := Lib.hid (bthen HB.out hbel)
        replace RA := Lib.hid (RA.out.below hbel)
        replace RB_ := Lib.hid (RB_.out.below hbel)
        replace RC := Lib.hid (RC.out.below hbel)
        replace T := Lib.hid (T.out.below hbel)
        replace AB := Lib.hid (AB.out.below hbel)
        replace BC := Lib.hid (BC.out.below hbel)
        replace X := Lib.hid (X.out.below hbel)
        replace Y := Lib.hid (Y.out.below hbel)
        replace U := Lib.hid (U.out.below hbel)
        replace P := Lib.hid (P.out.below hbel)
        replace V := Lib.hid (V.out.below hbel)
        replace Q := Lib.hid (Q.out.below hbel)
        clear hbel
        go_wp2_with fail
        go_ret
        exact ⟨rfl, HB.out⟩
end Go.Proofs.Ytoijjlpkoniipaa
