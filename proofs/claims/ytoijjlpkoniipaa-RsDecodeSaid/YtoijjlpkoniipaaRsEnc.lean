/- Codes: Encode. -/
import Derived.Test.YtoijjlpkoniipaaRsOwn
set_option linter.unusedVariables false
set_option linter.unusedSimpArgs false
namespace Go.Proofs.Ytoijjlpkoniipaa
open Go.RowKit Go.Proofs.YtoijjlpkoniipaaW.PrintWords Go.Proofs.YtoijjlpkoniipaaW.PrintLast Gf Lin
theorem Gw.fresh {w0 w : World} {v : Value} {i : Nat} {m : List (List UInt8)} (h : Gw w0 w v i m) {B : Option Addr} (hf : ∀ a, B = some a → w.heap.size ≤ a.block) : ∀ a, B = some a → v.ownBlock ≠ some a.block := by
  intro a ha e
  obtain ⟨us, h1, _⟩ := h.own
  have := (h1.lt _ e).2
  have := hf a ha
  omega
/-- The first i pieces. -/
def encB (k i : Nat) (m : List (List UInt8)) : List (List UInt8) := (List.range i).map fun j => sumB ((List.range k).map (codeM k j)) m
theorem encB_succ (k i : Nat) (m : List (List UInt8)) : encB k (i + 1) m = encB k i m ++ [sumB ((List.range k).map (codeM k i)) m] := by unfold encB; rw [List.range_succ, List.map_append]; rfl
theorem encB_length (k i : Nat) (m : List (List UInt8)) : (encB k i m).length = i := by simp [encB]
open Classical in
/-- The pieces, and their error. -/
noncomputable def docEnc (k n : Nat) (m : List (List UInt8)) : List (List UInt8) × Int := if m.length = k ∧ Alike m then (encB k n m, 0) else ([], 14)
theorem docEnc_ok {k n : Nat} {m : List (List UInt8)} (h1 : m.length = k) (h2 : Alike m) : docEnc k n m = (encB k n m, 0) := by unfold docEnc; rw [if_pos ⟨h1, h2⟩]
theorem docEnc_no {k n : Nat} {m : List (List UInt8)} (h : ¬ (m.length = k ∧ Alike m)) : docEnc k n m = ([], 14) := by unfold docEnc; rw [if_neg h]
theorem RD.nil (w : World) : RD w none 0 0 [] := ⟨Nat.le_refl _, CC_of_cells [] (by simp) (fun h => by simp at h)⟩
theorem enc_nil (B : Option Addr) (q c : Nat) (w : World) : Calls Try.prog 41 #[.pointer none, .slice B q c] w fun e w' => e = .returned (.tuple #[.slice none 0 0, .int .i64 15]) ∧ w' = w := by
  go_enter Try.func41, Try.ntmps41
  go_wp2_with fail
  go_ret2
  exact ⟨rfl, rfl⟩
set_option maxHeartbeats 1000000 in
set_option maxRecDepth 100000 in
theorem enc_R {w : World} {gc gt : Nat} {A : Option Addr} {k n cap : Nat} (H : Cd w gc gt A k n cap) {B : Option Addr} {q c : Nat} {m : List (List UInt8)} (h : RD w B q c m) (hq : q ≤ 1000) (hn : ∀ r ∈ m, r.length ≤ 1000000) :
    Calls Try.prog 41 #[.pointer (some ⟨gc, 0, none⟩), .slice B q c] w fun e w' => ∃ D s d ev, e = .returned (.tuple #[.slice D s d, .int .i64 ev]) ∧ ev = (docEnc k n m).2 ∧ RD w' D s d (docEnc k n m).1 ∧ Below w.heap.size w w' := by
  have hl := h.len
  have c1 := H.c1
  have hn2 := H.n2
  by_cases hqk : q = k
  · by_cases ha : Alike m
    · rw [docEnc_ok (by omega) ha]
      have t1 : ((q : Int) != (k : Int)) = false := by rw [hqk]; simp
      have hal := alike_R h hq
      have HC := Lib.hid H
      have HM := Lib.hid h
      have HA := Lib.hid ha
      have HN := Lib.hid hn
      have HQ := Lib.hid hqk
      have HL := Lib.hid hl
      clear H h ha hn hq hqk hl
      go_enter Try.func41, Try.ntmps41
      go_wp2_with fail
      refine hal.mono ?_
      clear hal
      rintro e w1 ⟨b, rfl, hb, hb1⟩
      obtain rfl : b = true := hb.2 HA.out
      have HB := Lib.hid hb1
      replace HC := Lib.hid (HC.out.below hb1)
      replace HM := Lib.hid (HM.out.below hb1)
      have c2 := HC.out.c2
      clear hb hb1 t1 c1
      go_wp2_with fail
      go_loopw [6, 30] (fun v z wr => ∃ i : Nat, i ≤ n ∧ z = .int .i64 i ∧ Gw w1 wr v i (encB k i m)) (fun _ z _ => n - (intOf z).toNat)
      case atStart => exact ⟨0, by omega, rfl, Gw.start _⟩
      case round =>
        obtain ⟨i, hi, rfl, hgw⟩ := hrel
        by_cases hin : i < n
        · have hc := HC.out.below hgw.bel
          obtain ⟨ad, R, cR, hA, hcell, hrow⟩ := hc.rd.row (k := i) hin
          cases hA
          have e1 : gr (rowsOf n k (codeM k)) i = (List.range k).map (codeM k i) := gr_rowsOf _ hin
          rw [e1] at hcell hrow
          have el : ((List.range k).map (codeM k i)).length = k := by simp
          rw [el] at hcell hrow
          have c0 := hc.c0
          have hsm := sum_R hc.td hrow (HM.out.below hgw.bel) HN.out
          rw [docSum_ok (by rw [el, HL.out, HQ.out]) HA.out] at hsm
          have l1 : (0 : Int) ≤ (i : Int) := by omega
          have l2 : (i : Int) < (n : Int) := by omega
          obtain ⟨A0, cap0, rfl⟩ := hgw.form
          have HG := Lib.hid hgw
          clear hgw hc hrow e1 el
          go_wp2_with fail
          refine hsm.mono ?_
          clear hsm
          rintro e w2 ⟨D, s, d, rfl, hrs, hfr, hb2⟩
          obtain ⟨A', cap', w3, hr, hgw⟩ := HG.out.step hb2 hrs (HG.out.fresh hfr) (by have := HC.out.n2; omega) 36
          rw [← encB_succ] at hgw
          have HG2 := Lib.hid hgw
          clear hrs hfr hb2 hgw c0 hcell
          go_wp2_with (at_builtin; refine Lib.wpList_append_run _ rfl _ _ _ _ rfl _ _ rfl rfl _ _ hr ?_)
          exact ⟨⟨i + 1, by omega, by go_num, HG2.out⟩, by simp [intOf]; omega⟩
        · obtain rfl : n = i := by omega
          obtain ⟨A0, cap0, rfl⟩ := hgw.form
          have HG := Lib.hid hgw
          have HN2 := HC.out.n2
          clear hgw
          go_wp2_with fail
          go_ret2
          exact ⟨A0, n, cap0, 0, rfl, rfl, HG.out.rd (by omega), bthen HB.out HG.out.bel⟩
    · rw [docEnc_no fun h => ha h.2]
      have t1 : ((q : Int) != (k : Int)) = false := by rw [hqk]; simp
      have hal := alike_R h hq
      have HA := Lib.hid ha
      clear H h ha hn hq hqk hl
      go_enter Try.func41, Try.ntmps41
      go_wp2_with fail
      refine hal.mono ?_
      clear hal
      rintro e w1 ⟨b, rfl, hb, hb1⟩
      have hbf : b = false := by
        cases b with
        | false => rfl
        | true => exact absurd (hb.1 rfl) HA.out
      subst hbf
      have HB := Lib.hid hb1
      clear hb hb1 t1
      go_wp2_with fail
      go_ret2
      exact ⟨none, 0, 0, 14, rfl, rfl, RD.nil _, HB.out⟩
  · rw [docEnc_no fun h => hqk (by omega)]
    have t1 : ((q : Int) != (k : Int)) = true := by simp; omega
    clear H h hn hq hqk hl
    go_enter Try.func41, Try.ntmps41
    go_wp2_with fail
    go_ret2
    exact ⟨none, 0, 0, 14, rfl, rfl, RD.nil _, Below.refl _ _⟩
end Go.Proofs.Ytoijjlpkoniipaa
