/- Codes: Again. -/
import Derived.Test.YtoijjlpkoniipaaRsDec
set_option linter.unusedVariables false
set_option linter.unusedSimpArgs false
namespace Go.Proofs.Ytoijjlpkoniipaa
open Go.RowKit Go.Proofs.YtoijjlpkoniipaaW.PrintWords Go.Proofs.YtoijjlpkoniipaaW.PrintLast Gf Lin
theorem decB_length (k i : Nat) (S : Lin.M) (m : List (List UInt8)) : (decB k i S m).length = i := by simp [decB]
theorem decB_row {k i j : Nat} (S : Lin.M) (m : List (List UInt8)) (h : j < i) : gr (decB k i S m) j = sumB ((List.range k).map (S j)) (m.take k) := by
  rw [gr_at (by rw [decB_length]; exact h)]; simp [decB]
theorem decB_mem {k i : Nat} {S : Lin.M} {m : List (List UInt8)} {r : List UInt8} (h : r ∈ decB k i S m) : r.length = ((m.take k).headD []).length := by
  unfold decB at h
  rw [List.mem_map] at h
  obtain ⟨j, _, rfl⟩ := h
  simp [sumB]
theorem alike_len_of {m : List (List UInt8)} {L : Nat} (h : ∀ r ∈ m, r.length = L) : Alike m := by
  intro r hr
  rw [h r hr]
  cases m with
  | nil => cases hr
  | cons a l => exact (h a (by simp)).symm
theorem decB_alike (k i : Nat) (S : Lin.M) (m : List (List UInt8)) : Alike (decB k i S m) := alike_len_of fun r hr => decB_mem hr
theorem decB_le {k i : Nat} {S : Lin.M} {m : List (List UInt8)} (hn : ∀ r ∈ m, r.length ≤ 1000000) : ∀ r ∈ decB k i S m, r.length ≤ 1000000 := fun r hr => by
  rw [decB_mem hr]
  cases hm : m.take k with
  | nil => simp
  | cons a l => exact hn a (List.mem_of_mem_take (by rw [hm]; simp))
/-- What Again answers. -/
def AgP (k n : Nat) (zs : List Int) (m : List (List UInt8)) (i : Int) (r : List UInt8) (ev : Int) : Prop :=
  (¬ (0 ≤ i ∧ i < (n : Int)) ∧ r = [] ∧ ev = 3) ∨
  ((0 ≤ i ∧ i < (n : Int)) ∧ docWrong k n zs m ≠ 0 ∧ r = [] ∧ ev = docWrong k n zs m) ∨
  ((0 ≤ i ∧ i < (n : Int)) ∧ docWrong k n zs m = 0 ∧ ev = 0 ∧ ∃ S : Lin.M, (∀ i, i < k → ∀ j, j < k → mul k S (pickM k zs) i j = Lin.unit i j) ∧ (∀ i, i < k → ∀ j, j < k → mul k (pickM k zs) S i j = Lin.unit i j) ∧ r = sumB ((List.range k).map (codeM k i.toNat)) (decB k k S m))
theorem again_nil (B : Option Addr) (q c : Nat) (C : Option Addr) (q' c' : Nat) (i : Int) (w : World) : Calls Try.prog 48 #[.pointer none, .slice B q c, .slice C q' c', .int .i64 i] w fun e w' => e = .returned (.tuple #[.slice none 0 0, .int .i64 15]) ∧ w' = w := by
  go_enter Try.func48, Try.ntmps48
  go_wp2_with fail
  go_ret2
  exact ⟨rfl, rfl⟩
set_option maxHeartbeats 1000000 in
set_option maxRecDepth 100000 in
theorem again_R {w : World} {gc gt : Nat} {A : Option Addr} {k n cap : Nat} (H : Cd w gc gt A k n cap) {B : Option Addr} {q c : Nat} {zs : List Int} (hz : RI w B q c zs) (hq : q ≤ 1000) {C : Option Addr} {q' c' : Nat} {m : List (List UInt8)} (h : RD w C q' c' m) (hq' : q' ≤ 1000) (hn : ∀ r ∈ m, r.length ≤ 1000000) (i : Int) :
    Calls Try.prog 48 #[.pointer (some ⟨gc, 0, none⟩), .slice B q c, .slice C q' c', .int .i64 i] w fun e w' => ∃ D s d r ev, e = .returned (.tuple #[.slice D s d, .int .i64 ev]) ∧ AgP k n zs m i r ev ∧ RS w' D s d r ∧ Below w.heap.size w w' := by
  have hth := there_R H i
  have HC := Lib.hid H
  have HZ := Lib.hid hz
  have HM := Lib.hid h
  have HN := Lib.hid hn
  clear H hz h hn
  by_cases hi : 0 ≤ i ∧ i < (n : Int)
  · rw [decide_eq_true hi] at hth
    have HI := Lib.hid hi
    clear hi
    go_enter Try.func48, Try.ntmps48
    go_wp2_with fail
    refine hth.mono ?_
    clear hth
    rintro e w1 ⟨rfl, hb1⟩
    have HB := Lib.hid hb1
    replace HC := Lib.hid (HC.out.below hb1)
    replace HZ := Lib.hid (HZ.out.below hb1)
    replace HM := Lib.hid (HM.out.below hb1)
    have hde := dec_R HC.out HZ.out hq HM.out hq' HN.out
    clear hb1
    go_wp2_with fail
    refine hde.mono ?_
    clear hde
    rintro e w2 ⟨D, s, d, x, ev, rfl, hp, hrd, hb2⟩
    replace HB := Lib.hid (bthen HB.out hb2)
    replace HC := Lib.hid (HC.out.below hb2)
    have HX := Lib.hid hrd
    have HP := Lib.hid hp
    clear hrd hp hb2
    by_cases hev : ev = 0
    · subst hev
      have hpp : docWrong k n zs m = 0 ∧ ∃ S : Lin.M, (∀ i, i < k → ∀ j, j < k → mul k S (pickM k zs) i j = Lin.unit i j) ∧ (∀ i, i < k → ∀ j, j < k → mul k (pickM k zs) S i j = Lin.unit i j) ∧ x = decB k k S m := by
        rcases HP.out with ⟨h1, _, h2⟩ | ⟨h1, _, h2⟩
        · exact absurd h2.symm h1
        · exact ⟨h1, h2⟩
      obtain ⟨hw0, S, hS1, hS2, rfl⟩ := hpp
      have hsl := HX.out.len
      rw [decB_length] at hsl
      subst hsl
      have hpc := piece_R HC.out HX.out (by have := HC.out.kn; have := HC.out.n2; omega) (decB_le HN.out) i
      rw [docPc_ok (decB_length _ _ _ _) (decB_alike _ _ _ _) HI.out] at hpc
      have HW0 := Lib.hid hw0
      have HS1 := Lib.hid hS1
      have HS2 := Lib.hid hS2
      clear hw0 hS1 hS2
      go_wp2_with fail
      refine hpc.mono ?_
      clear hpc
      rintro e w3 ⟨D3, s3, d3, ev3, rfl, he3, hr3, hb3⟩
      obtain rfl : ev3 = 0 := he3
      have HR3 := Lib.hid hr3
      replace HB := Lib.hid (bthen HB.out hb3)
      clear hr3 hb3
      go_wp2_with fail
      go_ret2
      exact ⟨D3, s3, d3, _, 0, rfl, .inr (.inr ⟨HI.out, HW0.out, rfl, S, HS1.out, HS2.out, rfl⟩), HR3.out, HB.out⟩
    · have t1 : (ev != 0) = true := by simp [hev]
      have HE := Lib.hid hev
      clear hev
      go_wp2_with fail
      go_ret2
      have hpp : docWrong k n zs m ≠ 0 ∧ ev = docWrong k n zs m := by
        rcases HP.out with ⟨h1, _, h2⟩ | ⟨_, h2, _⟩
        · exact ⟨h1, h2⟩
        · exact absurd h2 HE.out
      exact ⟨none, 0, 0, [], ev, rfl, .inr (.inl ⟨HI.out, hpp.1, rfl, hpp.2⟩), RS.nil _, HB.out⟩
  · rw [decide_eq_false hi] at hth
    have HI := Lib.hid hi
    clear hi
    go_enter Try.func48, Try.ntmps48
    go_wp2_with fail
    refine hth.mono ?_
    clear hth
    rintro e w1 ⟨rfl, hb1⟩
    have HB := Lib.hid hb1
    clear hb1
    go_wp2_with fail
    go_ret2
    exact ⟨none, 0, 0, [], 3, rfl, .inl ⟨HI.out, rfl, rfl⟩, RS.nil _, HB.out⟩
end Go.Proofs.Ytoijjlpkoniipaa
