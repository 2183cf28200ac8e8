/- The document's functions of layer 8 by their contracts, over bytes; the program's Mul, Cauchy and Unit at any arguments. -/
import Derived.Test.YtoijjlpkoniipaaRefRank
import Derived.Test.YtoijjlpkoniipaaMatRank
import Derived.Test.YtoijjlpkoniipaaReadsA
set_option linter.unusedVariables false
set_option linter.unusedSimpArgs false
namespace Go.Proofs.Ytoijjlpkoniipaa
open Go.RowKit Go.Proofs.YtoijjlpkoniipaaW.PrintWords Go.Proofs.YtoijjlpkoniipaaW.PrintLast Gf Lin
theorem ref_right (A : Option Addr) (m : List (List UInt8)) (c : Nat) (w : World) (hr : KBB.C w A m.length (bss m)) (hc : m.length ≤ c) :
    Calls Try.prog 54 #[.slice A m.length c] w fun e w' => ∃ b, e = .returned (.bool b) ∧ (b = true ↔ Rgt m) ∧ Drawn0 w w' := by
  obtain ⟨b, hb, he⟩ := PRsEncode.right_ev m
  obtain ⟨k, hk⟩ := he.at
  have h := PRsEncode.scriniumref08_Right.calls k A c (bss m) b w (by rw [bss_length]; exact hr) (by rw [bss_length]; exact hc) hk
  rw [bss_length] at h
  refine h.mono ?_
  rintro e w' ⟨rfl, hd⟩
  exact ⟨b, rfl, hb, hd⟩
theorem ref_rank (A : Option Addr) (m : List (List UInt8)) (c : Nat) (w : World) (hr : KBB.C w A m.length (bss m)) (hc : m.length ≤ c) {r : Nat} (hp : RankPost m r) :
    Calls Try.prog 53 #[.slice A m.length c] w fun e w' => e = .returned (.int .i64 (r : Int)) ∧ Below w.heap.size w w' := by
  have he : Ev (fun k => PRsEncode.scriniumref08_Rank.f k (bss m)) (r : Int) := by
    rcases hp with ⟨h1, h2⟩ | ⟨h1, rfl⟩
    · exact PRsEncode.rank_yes h1 h2
    · exact PRsEncode.rank_no h1
  obtain ⟨k, hk⟩ := he.at
  have h := PRsEncode.scriniumref08_Rank.calls k A c (bss m) _ w (by rw [bss_length]; exact hr) (by rw [bss_length]; exact hc) hk
  rwa [bss_length] at h
theorem ref_mmul (A : Option Addr) (a : List (List UInt8)) (ca : Nat) (B : Option Addr) (b : List (List UInt8)) (cb : Nat) (w : World) (hra : KBB.C w A a.length (bss a)) (hca : a.length ≤ ca) (hrb : KBB.C w B b.length (bss b)) (hcb : b.length ≤ cb) :
    Calls Try.prog 55 #[.slice A a.length ca, .slice B b.length cb] w fun e w' => ∃ v, e = .returned (.tuple #[v, .int .i64 (docMM a b).2]) ∧ RBB w' v (docMM a b).1 ∧ Below w.heap.size w w' := by
  have he : Ev (fun k => PRsEncode.scriniumref08_Mul.f k (bss a) (bss b)) (bss (docMM a b).1, (docMM a b).2) := by
    by_cases hf : Fit a b
    · rw [docMM_ok hf]; exact PRsEncode.rmul_ok hf
    · rw [docMM_no hf]; exact PRsEncode.rmul_no hf
  obtain ⟨k, hk⟩ := he.at
  have h := PRsEncode.scriniumref08_Mul.calls k A ca (bss a) B cb (bss b) _ _ w (by rw [bss_length]; exact hra) (by rw [bss_length]; exact hca) (by rw [bss_length]; exact hrb) (by rw [bss_length]; exact hcb) hk
  rw [bss_length, bss_length] at h
  refine h.mono ?_
  rintro e w' ⟨v, rfl, hs, hb⟩
  exact ⟨v, rfl, RBB.of_S hs, hb⟩
theorem ref_unit (z : Int) (w : World) : Calls Try.prog 56 #[.int .i64 z] w fun e w' => ∃ v, e = .returned v ∧ RBB w' v (docUnit z) ∧ Below w.heap.size w w' := by
  have he : Ev (fun k => PRsEncode.scriniumref08_Unit.f k z) (bss (docUnit z)) := by
    by_cases h : 1 ≤ z ∧ z ≤ 255
    · obtain ⟨n, rfl⟩ : ∃ n : Nat, z = (n : Int) := ⟨z.toNat, by omega⟩
      rw [docUnit_ok (by omega) (by omega)]
      exact PRsEncode.runit_ok n (by omega) (by omega)
    · rw [docUnit_no h]; exact PRsEncode.runit_no z h
  obtain ⟨k, hk⟩ := he.at
  refine (PRsEncode.scriniumref08_Unit.calls k z _ w hk).mono ?_
  rintro e w' ⟨v, rfl, hs, hb⟩
  exact ⟨v, rfl, RBB.of_S hs, hb⟩
theorem long08 (A : Option Addr) (m : List (List UInt8)) (c : Nat) (w : World) (hr : KBB.C w A m.length (bss m)) (hc : m.length ≤ c) :
    Calls Try.prog 50 #[.slice A m.length c] w fun e w' => e = .returned (.bool (PRsEncode.isLong m 8 8)) ∧ Drawn0 w w' := by
  have h := ref_long A m c 8 8 w hr hc
  clear hr hc
  go_enter Try.func50, Try.ntmps50
  go_wp2_with fail
  refine h.mono ?_
  clear h
  rintro e w2 ⟨rfl, hd⟩
  go_wp2_with fail
  go_ret
  exact ⟨rfl, hd⟩
set_option maxHeartbeats 1000000 in
theorem mmul_bad (gt : Nat) (A : Option Addr) (a : List (List UInt8)) (ca : Nat) (B : Option Addr) (b : List (List UInt8)) (cb : Nat) (w : World) (hra : KBB.C w A a.length (bss a)) (hrb : KBB.C w B b.length (bss b)) (hf : ¬ Fit a b) :
    Calls Try.prog 60 #[.pointer (some ⟨gt, 0, none⟩), .slice A a.length ca, .slice B b.length cb] w fun e w' => e = .returned (.tuple #[.slice none 0 0, .int .i64 14]) ∧ w' = w := by
  have hri1 := right_calls A a ca w hra
  have hri2 := right_calls B b cb w hrb
  by_cases ha : Rgt a
  · obtain ⟨ad, B0, c0, rfl, hcell, hcc, _⟩ := C_rowD hra (k := 0) (by have := ha.n1; omega)
    have add0 : ad.add 0 = ad := by simp [Addr.add]
    rw [add0] at hcell
    have n1 := ha.n1
    by_cases hb : Rgt b
    · have hl : (gr a 0).length ≠ b.length := fun e => hf ⟨ha, hb, e⟩
      obtain ⟨n, hn⟩ : ∃ n, n = a.length := ⟨_, rfl⟩
      obtain ⟨k, hk⟩ : ∃ k, k = b.length := ⟨_, rfl⟩
      obtain ⟨c, hc⟩ : ∃ c, c = (gr a 0).length := ⟨_, rfl⟩
      rw [← hn] at hri1 n1 ⊢
      rw [← hk] at hri2 ⊢
      rw [← hc] at hcell
      have t1 : ((c : Int) != (k : Int)) = true := by simp; omega
      have i0 : (0 : Int) < (n : Int) := by omega
      have HA := Lib.hid ha
      have HBB := Lib.hid hb
      clear hn hk hc hra hrb ha hb hl hcc add0 hf
      go_enter Try.func60, Try.ntmps60
      go_wp2_with fail
      refine hri1.mono ?_
      clear hri1
      rintro e w0 ⟨x, rfl, rfl, hx⟩
      obtain rfl : x = true := hx.2 HA.out
      clear hx
      go_wp2_with fail
      refine hri2.mono ?_
      clear hri2
      rintro e w1 ⟨x, rfl, rfl, hx⟩
      obtain rfl : x = true := hx.2 HBB.out
      clear hx
      go_wp2_with fail
      go_ret2
      exact ⟨rfl, rfl⟩
    · have HA := Lib.hid ha
      have HBB := Lib.hid hb
      clear hra hrb ha hb hcell hcc add0 hf
      go_enter Try.func60, Try.ntmps60
      go_wp2_with fail
      refine hri1.mono ?_
      clear hri1
      rintro e w0 ⟨x, rfl, rfl, hx⟩
      obtain rfl : x = true := hx.2 HA.out
      clear hx
      go_wp2_with fail
      refine hri2.mono ?_
      clear hri2
      rintro e w1 ⟨x, rfl, rfl, hx⟩
      have hxf : x = false := by
        cases x with
        | false => rfl
        | true => exact absurd (hx.1 rfl) HBB.out
      subst hxf
      clear hx
      go_wp2_with fail
      go_ret2
      exact ⟨rfl, rfl⟩
  · have HA := Lib.hid ha
    clear hra hrb ha hf hri2
    go_enter Try.func60, Try.ntmps60
    go_wp2_with fail
    refine hri1.mono ?_
    clear hri1
    rintro e w0 ⟨x, rfl, rfl, hx⟩
    have hxf : x = false := by
      cases x with
      | false => rfl
      | true => exact absurd (hx.1 rfl) HA.out
    subst hxf
    clear hx
    go_wp2_with fail
    go_ret2
    exact ⟨rfl, rfl⟩
theorem mmul_any (gt : Nat) (A : Option Addr) (a : List (List UInt8)) (ca : Nat) (B : Option Addr) (b : List (List UInt8)) (cb : Nat) (w : World) (ht : Tab w gt) (hg : gt < w.heap.size) (hra : KBB.C w A a.length (bss a)) (hca : a.length ≤ ca) (hrb : KBB.C w B b.length (bss b)) (hcb : b.length ≤ cb) :
    Calls Try.prog 60 #[.pointer (some ⟨gt, 0, none⟩), .slice A a.length ca, .slice B b.length cb] w fun e w' => ∃ v, e = .returned (.tuple #[v, .int .i64 (docMM a b).2]) ∧ RBB w' v (docMM a b).1 ∧ Below w.heap.size w w' := by
  by_cases hf : Fit a b
  · rw [docMM_ok hf]
    exact mmul_good gt A a ca B b cb w ht hg hra hrb hca hcb hf
  · rw [docMM_no hf]
    refine (mmul_bad gt A a ca B b cb w hra hrb hf).mono ?_
    rintro e w' ⟨rfl, rfl⟩
    exact ⟨_, rfl, RBB.nil _, Below.refl _ _⟩
end Go.Proofs.Ytoijjlpkoniipaa
