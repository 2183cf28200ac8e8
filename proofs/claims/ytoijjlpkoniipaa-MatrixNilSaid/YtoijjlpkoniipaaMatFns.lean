/- Matrices: within, Right, Unit. -/
import Derived.Test.YtoijjlpkoniipaaBlank
import Derived.Test.YtoijjlpkoniipaaGauss
namespace Go.Proofs.Ytoijjlpkoniipaa
open Go.RowKit Go.Proofs.YtoijjlpkoniipaaW.PrintWords Go.Proofs.YtoijjlpkoniipaaW.PrintLast Gf Lin
set_option linter.unusedSimpArgs false
theorem within_calls (a : Int) (w : World) : Calls Try.prog 73 #[.int .i64 a] w fun e w' => e = .returned (.bool (decide (1 ≤ a ∧ a ≤ 255))) ∧ w' = w := by
  by_cases h0 : 1 ≤ a
  · have t : decide (a ≥ 1) = true := by simp; omega
    by_cases h1 : a ≤ 255
    · have t1 : decide (a ≤ 255) = true := by simp; omega
      have t2 : decide (1 ≤ a ∧ a ≤ 255) = true := by simp; omega
      rw [t2]
      clear h0 h1
      go_enter Try.func73, Try.ntmps73
      go_wp2
      go_ret
      exact ⟨rfl, rfl⟩
    · have t1 : decide (a ≤ 255) = false := by simp; omega
      have t2 : decide (1 ≤ a ∧ a ≤ 255) = false := by simp; omega
      rw [t2]
      clear h0 h1
      go_enter Try.func73, Try.ntmps73
      go_wp2
      go_ret
      exact ⟨rfl, rfl⟩
  · have t : decide (a ≥ 1) = false := by simp; omega
    have t2 : decide (1 ≤ a ∧ a ≤ 255) = false := by simp; omega
    rw [t2]
    clear h0
    go_enter Try.func73, Try.ntmps73
    go_wp2
    go_ret
    exact ⟨rfl, rfl⟩
/-- Are rows a matrix? -/
structure Rgt (m : List (List UInt8)) : Prop where
  n1 : 1 ≤ m.length
  n2 : m.length ≤ 255
  c1 : 1 ≤ (gr m 0).length
  c2 : (gr m 0).length ≤ 255
  all : ∀ i, i < m.length → (gr m i).length = (gr m 0).length
set_option maxHeartbeats 1000000 in
theorem right_calls (A : Option Addr) (m : List (List UInt8)) (cap : Nat) (w : World) (hr : KBB.C w A m.length (bss m)) :
    Calls Try.prog 61 #[.slice A m.length cap] w fun e w' => ∃ b, e = .returned (.bool b) ∧ w' = w ∧ (b = true ↔ Rgt m) := by
  have hwn := within_calls (m.length : Int) w
  by_cases h1 : 1 ≤ m.length ∧ m.length ≤ 255
  · rw [show decide ((1 : Int) ≤ (m.length : Int) ∧ (m.length : Int) ≤ 255) = true by simp; omega] at hwn
    obtain ⟨ad, B, c, rfl, hcell, hcc, hrow⟩ := C_rowD hr (k := 0) (by omega)
    have hwn2 := within_calls ((gr m 0).length : Int) w
    have add0 : ad.add 0 = ad := by simp [Addr.add]
    rw [add0] at hcell
    by_cases h2 : 1 ≤ (gr m 0).length ∧ (gr m 0).length ≤ 255
    · rw [show decide ((1 : Int) ≤ ((gr m 0).length : Int) ∧ ((gr m 0).length : Int) ≤ 255) = true by simp; omega] at hwn2
      obtain ⟨n, hn⟩ : ∃ n, n = m.length := ⟨_, rfl⟩
      obtain ⟨q, hq⟩ : ∃ q, q = (gr m 0).length := ⟨_, rfl⟩
      have Hn := Lib.hid hn
      have Hq := Lib.hid hq
      have HR := Lib.hid hr
      have n1 : 1 ≤ n := by omega
      have n2 : n ≤ 255 := by omega
      have H2 := Lib.hid h2
      rw [← hn] at hwn ⊢
      rw [← hq] at hwn2 hcell
      have i1 : (0 : Int) < (n : Int) := by omega
      clear hn hq hr h1 h2 hcc hrow add0
      go_enter Try.func61, Try.ntmps61
      go_wp2_with fail
      refine hwn.mono ?_
      clear hwn
      rintro e w1 ⟨rfl, rfl⟩
      go_wp2_with fail
      refine hwn2.mono ?_
      clear hwn2
      rintro e w2 ⟨rfl, rfl⟩
      go_wp2_with fail
      go_loopw [19] (fun i wr => ∃ k : Nat, k ≤ n ∧ i = .int .i64 k ∧ wr = w2 ∧ ∀ j, j < k → (gr m j).length = q) (fun i _ => n - (intOf i).toNat)
      case atStart => exact ⟨0, by omega, rfl, rfl, fun j hj => by omega⟩
      case round =>
        obtain ⟨k, hk, rfl, rfl, hall⟩ := hrel
        by_cases hlt : k < n
        · obtain ⟨ad', B', c', hA, hcell', hcc', hrow'⟩ := C_rowD HR.out (k := k) (by have := Hn.out; omega)
          cases hA
          have HALL := Lib.hid hall
          have i2 : (0 : Int) ≤ (k : Int) := by omega
          have i3 : (k : Int) < (n : Int) := by omega
          obtain ⟨l, hl⟩ : ∃ l, l = (gr m k).length := ⟨_, rfl⟩
          rw [← hl] at hcell'
          have HL := Lib.hid hl
          clear hall hrow' hcc' hl
          by_cases heq : l = q
          · have t : ((l : Int) != (q : Int)) = false := by simp [heq]
            have HE := Lib.hid heq
            clear heq
            go_wp2_with fail
            refine ⟨⟨k + 1, by omega, by go_num, trivial, fun j hj => ?_⟩, by simp [intOf]; omega⟩
            by_cases hjk : j = k
            · rw [hjk, ← HL.out]; exact HE.out
            · exact HALL.out j (by omega)
          · have t : ((l : Int) != (q : Int)) = true := by simp; omega
            have HE := Lib.hid heq
            clear heq
            go_wp2_with fail
            go_ret
            refine ⟨false, rfl, rfl, ⟨fun h => (by cases h), fun h => absurd ?_ HE.out⟩⟩
            rw [HL.out, Hq.out]
            exact h.all k (by have := Hn.out; omega)
        · obtain rfl : k = n := by omega
          have HALL := Lib.hid hall
          clear hall
          go_wp2_with fail
          go_ret
          refine ⟨true, rfl, rfl, ⟨fun _ => ⟨by have := Hn.out; omega, by have := Hn.out; omega, H2.out.1, H2.out.2, fun i hi => ?_⟩, fun _ => rfl⟩⟩
          rw [← Hq.out]
          exact HALL.out i (by have := Hn.out; omega)
    · rw [show decide ((1 : Int) ≤ ((gr m 0).length : Int) ∧ ((gr m 0).length : Int) ≤ 255) = false by simp; omega] at hwn2
      obtain ⟨n, hn⟩ : ∃ n, n = m.length := ⟨_, rfl⟩
      obtain ⟨q, hq⟩ : ∃ q, q = (gr m 0).length := ⟨_, rfl⟩
      have H2 := Lib.hid h2
      rw [← hn] at hwn ⊢
      rw [← hq] at hwn2 hcell
      have i1 : (0 : Int) < (n : Int) := by omega
      clear hn hq hr h1 h2 hcc hrow add0
      go_enter Try.func61, Try.ntmps61
      go_wp2_with fail
      refine hwn.mono ?_
      clear hwn
      rintro e w1 ⟨rfl, rfl⟩
      go_wp2_with fail
      refine hwn2.mono ?_
      clear hwn2
      rintro e w2 ⟨rfl, rfl⟩
      go_wp2_with fail
      go_ret
      exact ⟨false, rfl, rfl, ⟨fun h => (by cases h), fun h => absurd ⟨h.c1, h.c2⟩ H2.out⟩⟩
  · rw [show decide ((1 : Int) ≤ (m.length : Int) ∧ (m.length : Int) ≤ 255) = false by simp; omega] at hwn
    have H1 := Lib.hid h1
    clear hr h1
    go_enter Try.func61, Try.ntmps61
    go_wp2_with fail
    refine hwn.mono ?_
    clear hwn
    rintro e w1 ⟨rfl, rfl⟩
    go_wp2_with fail
    go_ret
    exact ⟨false, rfl, rfl, ⟨fun h => (by cases h), fun h => absurd ⟨h.n1, h.n2⟩ H1.out⟩⟩
/-! ### The unit -/
theorem unit_set {k : Nat} {i j : Nat} : updM (fun a b => if a < k ∧ a = b then 1 else 0) k k 1 i j = (if i < k + 1 ∧ i = j then (1 : UInt8) else 0) := by
  unfold updM
  by_cases h1 : i = k ∧ j = k
  · rw [if_pos h1, if_pos ⟨by omega, by omega⟩]
  · rw [if_neg h1]
    show (if i < k ∧ i = j then (1 : UInt8) else 0) = _
    by_cases h2 : i < k ∧ i = j
    · rw [if_pos h2, if_pos ⟨by omega, h2.2⟩]
    · rw [if_neg h2, if_neg (by omega)]
theorem perm_id (n : Nat) : Perm n id := ⟨fun _ h => h, fun _ _ _ _ h => h⟩
set_option maxHeartbeats 1000000 in
set_option maxRecDepth 100000 in
theorem unit_calls (n : Nat) (h1 : 1 ≤ n) (hn : n ≤ 255) (w : World) :
    Calls Try.prog 59 #[.int .i64 (n : Int)] w fun e w' => e = .returned (.slice (some ⟨w.heap.size + 1, 0, none⟩) n n) ∧ Mat w' (w.heap.size + 1) w.heap.size n n id Lin.unit ∧ Below w.heap.size w w' ∧ w.heap.size + 2 ≤ w'.heap.size := by
  have hwn := within_calls (n : Int) w
  rw [show decide ((1 : Int) ≤ (n : Int) ∧ (n : Int) ≤ 255) = true by simp; omega] at hwn
  have hbl := blank_calls n n hn h1 hn w
  go_enter Try.func59, Try.ntmps59
  go_wp2_with fail
  refine hwn.mono ?_
  clear hwn
  rintro e w1 ⟨rfl, rfl⟩
  go_wp2_with fail
  refine hbl.mono ?_
  clear hbl
  rintro e w2 ⟨rfl, hm, hb, hs⟩
  have hm0 : Mat w2 (w1.heap.size + 1) w1.heap.size n n id (fun a b => if a < 0 ∧ a = b then 1 else 0) := hm.congr (fun i _ j _ => by rw [if_neg (by omega)])
  have HM := Lib.hid hm0
  have HB := Lib.hid hb
  have HS := Lib.hid hs
  clear hm hm0 hb hs
  go_wp2_with fail
  go_loopw [13] (fun i wr => ∃ k : Nat, k ≤ n ∧ i = .int .i64 k ∧ Mat wr (w1.heap.size + 1) w1.heap.size n n id (fun a b => if a < k ∧ a = b then 1 else 0) ∧ Below w1.heap.size w1 wr ∧ w1.heap.size + 2 ≤ wr.heap.size) (fun i _ => n - (intOf i).toNat)
  case atStart => exact ⟨0, by omega, rfl, HM.out, HB.out, HS.out⟩
  case round =>
    obtain ⟨k, hk, rfl, hm, hb, hs⟩ := hrel
    by_cases hlt : k < n
    · have c1 := hm.rows k hlt
      have c2 := hm.cells k hlt k hlt
      have f2 := hm.fa (k * n + k)
      simp only [id] at c1 c2
      have hset := hm.set (perm_id n) (by omega) hlt hlt 1
      have hset2 : Mat (wr.setCell ⟨w1.heap.size, k * n + k, none⟩ (.int .u8 1)) (w1.heap.size + 1) w1.heap.size n n id (fun a b => if a < k + 1 ∧ a = b then 1 else 0) := hset.congr (fun i _ j _ => unit_set.symm)
      have HM := Lib.hid hset2
      have HB := Lib.hid hb
      have HS := Lib.hid hs
      have i1 : (0 : Int) ≤ (k : Int) := by omega
      have i2 : (k : Int) < (n : Int) := by omega
      clear hm hset hset2 hb hs
      generalize ((if k < k ∧ k = k then (1 : UInt8) else 0).toNat : Int) = old at c2
      generalize hq : k * n = q at *
      have HQ := Lib.hid hq
      clear hq
      go_wp2_with fail
      exact ⟨⟨k + 1, by omega, by go_num, HM.out, Below.setCell HB.out (Nat.le_refl _) _, by simpa using HS.out⟩, by simp [intOf]; omega⟩
    · obtain rfl : k = n := by omega
      have hu : Mat wr (w1.heap.size + 1) w1.heap.size k k id Lin.unit := hm.congr (fun i hi j hj => by
        show Lin.unit i j = (if i < k ∧ i = j then (1 : UInt8) else 0)
        unfold Lin.unit
        by_cases hij : i = j
        · rw [if_pos hij, if_pos ⟨hi, hij⟩]
        · rw [if_neg hij, if_neg (by omega)])
      have HM := Lib.hid hu
      have HB := Lib.hid hb
      have HS := Lib.hid hs
      clear hm hu hb hs
      go_wp2_with fail
      go_ret
      exact ⟨rfl, HM.out, HB.out, HS.out⟩
theorem unit_bad (z : Int) (h : ¬ (1 ≤ z ∧ z ≤ 255)) (w : World) : Calls Try.prog 59 #[.int .i64 z] w fun e w' => e = .returned (.slice none 0 0) ∧ w' = w := by
  have hwn := within_calls z w
  rw [decide_eq_false h] at hwn
  clear h
  go_enter Try.func59, Try.ntmps59
  go_wp2_with fail
  refine hwn.mono ?_
  clear hwn
  rintro e w1 ⟨rfl, rfl⟩
  go_wp2_with fail
  go_ret
  exact ⟨rfl, rfl⟩
end Go.Proofs.Ytoijjlpkoniipaa
