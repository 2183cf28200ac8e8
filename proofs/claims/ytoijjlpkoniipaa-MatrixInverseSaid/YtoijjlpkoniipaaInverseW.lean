/- The law MatrixInverse. -/
import Derived.Test.YtoijjlpkoniipaaReads
set_option linter.unusedVariables false
set_option linter.unusedSimpArgs false
namespace Go.Proofs.Ytoijjlpkoniipaa
open Go.RowKit Go.Proofs.YtoijjlpkoniipaaW.PrintWords Go.Proofs.YtoijjlpkoniipaaW.PrintLast Gf Lin
theorem inv_sides {a : List (List UInt8)} (h : Sq a) {S : Lin.M} (h1 : ∀ i, i < a.length → ∀ j, j < a.length → mul a.length S (fn a) i j = Lin.unit i j) (h2 : ∀ i, i < a.length → ∀ j, j < a.length → mul a.length (fn a) S i j = Lin.unit i j) :
    (Fit a (rowsOf a.length a.length S) ∧ prod a (rowsOf a.length a.length S) = docUnit (a.length : Int)) ∧ Fit (rowsOf a.length a.length S) a ∧ prod (rowsOf a.length a.length S) a = docUnit (a.length : Int) := by
  have hg := rgt_rowsOf S h.1.n1 h.1.n2 h.1.n1 h.1.n2
  have e0 : (gr (rowsOf a.length a.length S) 0).length = a.length := len0_rowsOf S h.1.n1
  rw [docUnit_ok h.1.n1 h.1.n2]
  refine ⟨⟨⟨h.1, hg, by rw [rowsOf_length]; exact h.2.symm⟩, ?_⟩, ⟨hg, h.1, e0⟩, ?_⟩
  · unfold prod
    rw [rowsOf_length, e0]
    refine rowsOf_congr fun i hi j hj => ?_
    rw [← h2 i hi j hj]
    exact sm_congr fun t ht => by congr 1; exact fn_rowsOf _ ht hj
  · unfold prod
    rw [rowsOf_length, ← h.2]
    refine rowsOf_congr fun i hi j hj => ?_
    rw [← h1 i hi j hj]
    exact sm_congr fun t ht => by congr 1; exact fn_rowsOf _ hi ht
theorem inv_less {a x : List (List UInt8)} {ev : Int} {r : Nat} (h : Sq a) (hi : InvR a x ev) (hr : RankPost a r) (hl : r < a.length) : x = [] ∧ ev = 11 := by
  rcases hi with ⟨h1, _⟩ | ⟨_, h1, h2, _⟩ | ⟨_, _, M, S, h1, h2, _⟩
  · exact absurd h h1
  · exact ⟨h1, h2⟩
  · rcases hr with ⟨_, hr⟩ | ⟨h3, _⟩
    · rw [← h.2] at hr
      have := inverse_rank hr (h1.inverse h2).1
      omega
    · exact absurd h.1 h3
theorem inv_full {a x : List (List UInt8)} {ev : Int} {r : Nat} (h : Sq a) (hi : InvR a x ev) (hr : RankPost a r) (hl : ¬ r < a.length) : ev = 0 ∧ (Fit a x ∧ prod a x = docUnit (a.length : Int)) ∧ Fit x a ∧ prod x a = docUnit (a.length : Int) := by
  rcases hi with ⟨h1, _⟩ | ⟨_, h1, h2, y, i, hi, hy, h0⟩ | ⟨_, h3, M, S, h1, h2, rfl⟩
  · exact absurd h h1
  · rcases hr with ⟨_, hr⟩ | ⟨h3, _⟩
    · rw [← h.2] at hr
      exact absurd (rank_lt hr hi hy h0) hl
    · exact absurd h.1 h3
  · exact ⟨h3, inv_sides h (h1.inverse h2).1 (h1.inverse h2).2⟩
theorem inv_not {a x : List (List UInt8)} {ev : Int} (h : ¬ Sq a) (hi : InvR a x ev) : x = [] ∧ ev = 14 := by
  rcases hi with ⟨_, h1, h2⟩ | ⟨h1, _⟩ | ⟨h1, _⟩
  · exact ⟨h1, h2⟩
  · exact absurd h1 h
  · exact absurd h1 h
set_option maxHeartbeats 4000000 in
set_option maxRecDepth 100000 in
theorem MatrixInverse_walk (w : World) (A : Option Addr) (a : List (List UInt8)) (ca : Nat) (hca : a.length ≤ ca) (hra : KBB.C w A a.length (bss a)) :
    Calls Try.prog 11 #[.slice A a.length ca] w fun e w' => e = .returned (.bool true) ∧ Below w.heap.size w w' := by
  have RA := Lib.hid (RD.mk hca hra)
  obtain ⟨n, hn⟩ : ∃ n, n = a.length := ⟨_, rfl⟩
  rw [← hn] at RA ⊢
  have HN := Lib.hid hn
  clear hca hra hn
  go_enter Try.func11, Try.ntmps11
  go_wp2_with fail
  have hcl := wakes08 w
  refine hcl.mono ?_
  clear hcl
  rintro e w1_ ⟨rfl, hbel⟩
  have HB := Lib.hid hbel
  replace RA := Lib.hid (RA.out.below hbel)
  clear hbel
  have hcl := long8_R RA.out
  go_wp2_with fail
  refine hcl.mono ?_
  clear hcl
  rintro e w2_ ⟨b_, rfl, hbe, hbel⟩
  replace HB := Lib.hid (bthen HB.out hbel)
  replace RA := Lib.hid (RA.out.below hbel)
  clear hbel
  cases hl : PRsEncode.isLong a 8 8 with
  | true =>
    rw [hl] at hbe
    subst hbe
    clear hl
    go_wp2_with fail
    go_ret
    exact ⟨rfl, HB.out⟩
  | false =>
    rw [hl] at hbe
    subst hbe
    have LRA := Lib.hid (PRsEncode.isLong_false hl)
    clear hl
    have hcl := make_R w2_
    go_wp2_with fail
    refine hcl.mono ?_
    clear hcl
    rintro e w3_ ⟨gt, rfl, ht, hbel⟩
    replace HB := Lib.hid (bthen HB.out hbel)
    replace RA := Lib.hid (RA.out.below hbel)
    have T := Lib.hid ht
    clear ht hbel
    have hcl := copy_R RA.out (by have := LRA.out.1; omega) (fun r hr => by have := LRA.out.2 r hr; omega)
    go_wp2_with fail
    refine hcl.mono ?_
    clear hcl
    rintro e w4_ ⟨AO, qO, cO, rfl, hr, hbel⟩
    replace HB := Lib.hid (bthen HB.out hbel)
    replace RA := Lib.hid (RA.out.below hbel)
    replace T := Lib.hid (T.out.below hbel)
    have O := Lib.hid hr
    clear hr hbel
    have hcl := inv_R T.out O.out
    go_wp2_with fail
    refine hcl.mono ?_
    clear hcl
    rintro e w5_ ⟨D, s, d, x, ev, rfl, hi, hr, hbel⟩
    replace HB := Lib.hid (bthen HB.out hbel)
    replace RA := Lib.hid (RA.out.below hbel)
    replace T := Lib.hid (T.out.below hbel)
    replace O := Lib.hid (O.out.below hbel)
    have X := Lib.hid hr
    have HI := Lib.hid hi
    clear hr hi hbel
    have hcl := sameall_R O.out RA.out 8 LRA.out.2 (by omega)
    go_wp2_with fail
    refine hcl.mono ?_
    clear hcl
    rintro e w6_ ⟨rfl, hbel⟩
    replace HB := Lib.hid (bthen HB.out hbel)
    replace RA := Lib.hid (RA.out.below hbel)
    replace T := Lib.hid (T.out.below hbel)
    replace O := Lib.hid (O.out.below hbel)
    replace X := Lib.hid (X.out.below hbel)
    clear hbel
    clear O
    have hcl := rank_R T.out RA.out
    go_wp2_with fail
    refine hcl.mono ?_
    clear hcl
    rintro e w7_ ⟨r, rfl, hp, hbel⟩
    replace HB := Lib.hid (bthen HB.out hbel)
    replace RA := Lib.hid (RA.out.below hbel)
    replace T := Lib.hid (T.out.below hbel)
    replace X := Lib.hid (X.out.below hbel)
    have HP := Lib.hid hp
    clear hp hbel
    have tr : ((r : Int) != (r : Int)) = false := by simp
    have hcl := rrank_R HP.out RA.out
    go_wp2_with fail
    refine hcl.mono ?_
    clear hcl
    rintro e w8_ ⟨rfl, hbel⟩
    replace HB := Lib.hid (bthen HB.out hbel)
    replace RA := Lib.hid (RA.out.below hbel)
    replace T := Lib.hid (T.out.below hbel)
    replace X := Lib.hid (X.out.below hbel)
    clear hbel
    have hcl := rright_R RA.out
    go_wp2_with fail
    refine hcl.mono ?_
    clear hcl
    rintro e w9_ ⟨b_, rfl, hbe, hbel⟩
    replace HB := Lib.hid (bthen HB.out hbel)
    replace RA := Lib.hid (RA.out.below hbel)
    replace T := Lib.hid (T.out.below hbel)
    replace X := Lib.hid (X.out.below hbel)
    clear hbel
    by_cases hr : Rgt a
    rotate_left
    · skip
      obtain rfl := not_rgt_bool hbe hr
      obtain ⟨hx, he⟩ := inv_not (fun q => hr q.1) HI.out
      subst he
      obtain rfl : s = 0 := by have := X.out.len; rw [hx] at this; simpa using this.symm
      clear hx
      clear hr hbe
      go_wp2_with fail
      go_ret
      exact ⟨rfl, HB.out⟩
    obtain rfl : b_ = true := hbe.2 hr
    have HG := Lib.hid hr
    clear hbe hr
    obtain ⟨ad_, B_, cB_, rfl, hcell, _⟩ := RA.out.row0 (by have := RA.out.len; have := HG.out.n1; omega)
    have i0 : (0 : Int) < (n : Int) := by have := RA.out.len; have := HG.out.n1; omega
    obtain ⟨l_, hl_⟩ : ∃ l_, l_ = (gr a 0).length := ⟨_, rfl⟩
    rw [← hl_] at hcell
    by_cases hlk : n = l_
    rotate_left
    · skip
      have t1 : ((n : Int) != (l_ : Int)) = true := by simp; omega
      obtain ⟨hx, he⟩ := inv_not (fun q => hlk (by rw [HN.out, hl_]; exact q.2)) HI.out
      subst he
      obtain rfl : s = 0 := by have := X.out.len; rw [hx] at this; simpa using this.symm
      clear hx
      clear hl_ hlk
      go_wp2_with fail
      go_ret
      exact ⟨rfl, HB.out⟩
    have HSQ : Hid (Sq a) := Lib.hid ⟨HG.out, by rw [← HN.out, hlk, hl_]⟩
    have t1 : ((n : Int) != (l_ : Int)) = false := by rw [hlk]; simp
    clear hl_ hlk
    have hrk := rrank_R HP.out RA.out
    have hcl := hrk
    go_wp2_with fail
    refine hcl.mono ?_
    clear hcl
    rintro e w10_ ⟨rfl, hbel⟩
    replace HB := Lib.hid (bthen HB.out hbel)
    replace RA := Lib.hid (RA.out.below hbel)
    replace T := Lib.hid (T.out.below hbel)
    replace X := Lib.hid (X.out.below hbel)
    clear hbel
    clear hrk t1 hcell
    by_cases hlt : r < n
    · skip
      obtain ⟨hx, he⟩ := inv_less HSQ.out HI.out HP.out (by rw [← HN.out]; exact hlt)
      subst he
      obtain rfl : s = 0 := by have := X.out.len; rw [hx] at this; simpa using this.symm
      have t2 : (r : Int) < (n : Int) := by omega
      clear hx
      go_wp2_with fail
      go_ret
      exact ⟨rfl, HB.out⟩
    obtain ⟨he, ⟨f1, p1⟩, f2, p2⟩ := inv_full HSQ.out HI.out HP.out (by rw [← HN.out]; exact hlt)
    subst he
    have t2 : ¬ (r : Int) < (n : Int) := by omega
    have HF1 := Lib.hid f1
    have HF2 := Lib.hid f2
    have HP1 := Lib.hid p1
    have HP2 := Lib.hid p2
    clear f1 f2 p1 p2 hlt
    have hcl := rmmul_R RA.out X.out
    go_wp2_with fail
    refine hcl.mono ?_
    clear hcl
    rintro e w11_ ⟨DP, sP, dP, evP, rfl, hev, hr, hbel⟩
    replace HB := Lib.hid (bthen HB.out hbel)
    replace RA := Lib.hid (RA.out.below hbel)
    replace T := Lib.hid (T.out.below hbel)
    replace X := Lib.hid (X.out.below hbel)
    clear hbel
    rw [docMM_ok HF1.out] at hev hr
    have hev : evP = 0 := hev
    subst hev
    have hr : RD _ _ _ _ (prod _ _) := hr
    rw [HP1.out] at hr
    have P := Lib.hid hr
    clear hr
    have hcl := rmmul_R X.out RA.out
    go_wp2_with fail
    refine hcl.mono ?_
    clear hcl
    rintro e w12_ ⟨DQ, sQ, dQ, evQ, rfl, hev, hr, hbel⟩
    replace HB := Lib.hid (bthen HB.out hbel)
    replace RA := Lib.hid (RA.out.below hbel)
    replace T := Lib.hid (T.out.below hbel)
    replace X := Lib.hid (X.out.below hbel)
    replace P := Lib.hid (P.out.below hbel)
    clear hbel
    rw [docMM_ok HF2.out] at hev hr
    have hev : evQ = 0 := hev
    subst hev
    have hr : RD _ _ _ _ (prod _ _) := hr
    rw [HP2.out] at hr
    have Q := Lib.hid hr
    clear hr
    have hcl := runit_R (n : Int) w12_
    go_wp2_with fail
    refine hcl.mono ?_
    clear hcl
    rintro e w13_ ⟨DU, sU, dU, rfl, hr, hbel⟩
    replace HB := Lib.hid (bthen HB.out hbel)
    replace RA := Lib.hid (RA.out.below hbel)
    replace T := Lib.hid (T.out.below hbel)
    replace X := Lib.hid (X.out.below hbel)
    replace P := Lib.hid (P.out.below hbel)
    replace Q := Lib.hid (Q.out.below hbel)
    have U := Lib.hid hr
    clear hr hbel
    rw [HN.out] at U
    have hcl := sameall_R P.out U.out 255 (docUnit_rowsle _) (by omega)
    go_wp2_with fail
    refine hcl.mono ?_
    clear hcl
    rintro e w14_ ⟨rfl, hbel⟩
    replace HB := Lib.hid (bthen HB.out hbel)
    replace RA := Lib.hid (RA.out.below hbel)
    replace T := Lib.hid (T.out.below hbel)
    replace X := Lib.hid (X.out.below hbel)
    replace P := Lib.hid (P.out.below hbel)
    replace Q := Lib.hid (Q.out.below hbel)
    replace U := Lib.hid (U.out.below hbel)
    clear hbel
    have hcl := sameall_R Q.out U.out 255 (docUnit_rowsle _) (by omega)
    go_wp2_with fail
    refine hcl.mono ?_
    clear hcl
    rintro e w15_ ⟨rfl, hbel⟩
    replace HB := Lib.hid (bthen HB.out hbel)
    replace RA := Lib.hid (RA.out.below hbel)
    replace T := Lib.hid (T.out.below hbel)
    replace X := Lib.hid (X.out.below hbel)
    replace P := Lib.hid (P.out.below hbel)
    replace Q := Lib.hid (Q.out.below hbel)
    replace U := Lib.hid (U.out.below hbel)
    clear hbel
    go_wp2_with fail
    go_ret
    exact ⟨rfl, HB.out⟩
end Go.Proofs.Ytoijjlpkoniipaa
