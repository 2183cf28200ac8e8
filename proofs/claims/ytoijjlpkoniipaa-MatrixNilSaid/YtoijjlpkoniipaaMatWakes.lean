/- Matrices: the example; the law MatrixNil. -/
import Derived.Test.YtoijjlpkoniipaaMatInv
namespace Go.Proofs.Ytoijjlpkoniipaa
open Go.RowKit Go.Proofs.YtoijjlpkoniipaaW.PrintWords Go.Proofs.YtoijjlpkoniipaaW.PrintLast Gf Lin
set_option linter.unusedSimpArgs false
theorem two_inv {S : Lin.M} (h : mul 1 S (fn [[2]]) 0 0 = Lin.unit 0 0) : S 0 0 = 142 := by
  have h1 : gm (S 0 0) 2 = 1 := by
    have : sm 1 (fun t => gm (S 0 t) (fn [[2]] t 0)) = 1 := by
      have e : Lin.unit 0 0 = 1 := rfl
      rw [← e]; exact h
    simpa [sm, fn, gr, gb] using this
  have h2 : gm (S 0 0) 2 = gm 142 2 := by rw [h1]; decide +kernel
  have h3 : gm (S 0 0 ^^^ 142) 2 = 0 := by rw [gm_comm, gm_xor, gm_comm 2 (S 0 0), h2, gm_comm 2 142, UInt8.xor_self]
  rcases gm_eq_zero.1 h3 with e | e
  · exact xor_eq_zero e
  · exact absurd e (by decide)
theorem sq_two : Sq [[2]] := ⟨⟨by decide, by decide, by decide, by decide, fun i hi => by
  have : i = 0 := by simpa using hi
  subst this; rfl⟩, by decide⟩
set_option maxHeartbeats 1000000 in
set_option maxRecDepth 100000 in
theorem wakes08 (w : World) : Calls Try.prog 49 #[] w fun e w' => e = .returned (.bool true) ∧ Below w.heap.size w w' := by
  go_enter Try.func49, Try.ntmps49
  go_wp2_with fail
  refine (make_calls w).mono ?_
  rintro e w1 ⟨rfl, ht, hlt, hb1⟩
  have HT := Lib.hid ht
  have HB := Lib.hid hb1
  have HL := Lib.hid hlt
  clear ht hb1 hlt
  go_wp2_with fail
  obtain ⟨w2, hw2⟩ : ∃ w2, w2 = ((w1.alloc (.cells #[.int .u8 2] 5)).alloc (.cells #[.slice (some ⟨w1.heap.size, 0, none⟩) 1 1] 35)) := ⟨_, rfl⟩
  rw [← hw2]
  have hb2 : Below w1.heap.size w1 w2 := by rw [hw2]; exact ((Below.refl _ _).alloc (Nat.le_refl _) _).alloc (by simp) _
  have k1 : w2.heap[w1.heap.size]? = some (.cells #[.int .u8 2] 5) := by rw [hw2]; exact (Below.heap_alloc _ _ _ (by simp)).trans (heap_alloc_new w1 _)
  have k2 : w2.heap[w1.heap.size + 1]? = some (.cells #[.slice (some ⟨w1.heap.size, 0, none⟩) 1 1] 35) := by
    rw [hw2]
    have := heap_alloc_new (w1.alloc (.cells #[.int .u8 2] 5)) (.cells #[.slice (some ⟨w1.heap.size, 0, none⟩) 1 1] 35)
    simpa using this
  have hr : KBB.C w2 (some ⟨w1.heap.size + 1, 0, none⟩) 1 (bss [[2]]) := CC_of_cells (A := some ⟨w1.heap.size + 1, 0, none⟩) [[2]] (by simp) (fun _ => ⟨_, rfl, fun j hj => by
    have hj0 : j = 0 := by simpa using hj
    subst hj0
    refine ⟨some ⟨w1.heap.size, 0, none⟩, 1, by rw [add_at, cell_of_row _ _ _ _ _ _ k2]; rfl, by simp [gr], ?_⟩
    exact C_of_cells (A := some ⟨w1.heap.size, 0, none⟩) [2] (by simp) (fun _ => ⟨_, rfl, fun j hj => by
      have hj0 : j = 0 := by simpa using hj
      subst hj0
      rw [add_at, cell_of_row _ _ _ _ _ _ k1]; rfl⟩)⟩)
  have hin := inverse_calls w.heap.size (some ⟨w1.heap.size + 1, 0, none⟩) [[2]] 1 w2 (HT.out.below HL.out hb2) (by have := HL.out; have := hb2.size; omega) hr
  have HB2 := Lib.hid (HB.out.trans (hb2.mono HB.out.size))
  clear hr k1 k2 hb2 hw2
  refine hin.mono ?_
  clear hin
  rintro e w3 ⟨v, ev, rfl, hpost, hb3⟩
  have HB3 := Lib.hid (HB2.out.trans (hb3.mono HB2.out.size))
  clear hb3
  rcases hpost with ⟨h, _⟩ | ⟨_, _, _, x, i, hi, hx, h0⟩ | ⟨_, rfl, M, S, hrel, hun, ⟨A, c, rfl, hcap, hC⟩⟩
  · exact absurd sq_two h
  · exfalso
    have hi0 : i = 0 := by simpa using hi
    subst hi0
    have := h0 0 (by decide)
    have h2 : gm 2 (x 0) = 0 := by simpa [sm, fn, gr, gb] using this
    rcases gm_eq_zero.1 h2 with e | e
    · exact absurd e (by decide)
    · exact hx e
  · have hS := two_inv ((hrel.inverse hun).1 0 (by decide) 0 (by decide))
    have hl : (rowsOf ([[2]] : List (List UInt8)).length ([[2]] : List (List UInt8)).length S).length = 1 := by simp
    obtain ⟨ad, B, cB, rfl, hcell, hcc, hrow⟩ := C_rowD hC (k := 0) (by rw [hl]; decide)
    have hg : gr (rowsOf ([[2]] : List (List UInt8)).length ([[2]] : List (List UInt8)).length S) 0 = [142] := by
      rw [gr_rowsOf _ (by decide)]
      show (List.range 1).map (S 0) = [142]
      simp [hS]
    rw [hg] at hcell hrow
    obtain ⟨ad2, rfl, hbyte⟩ := C_byteD hrow (k := 0) (by decide)
    have add0 : ad.add 0 = ad := by simp [Addr.add]
    have add1 : ad2.add 0 = ad2 := by simp [Addr.add]
    rw [add0] at hcell
    rw [add1] at hbyte
    have hcell' : w3.cell? ad = some (.slice (some ad2) 1 cB) := hcell
    have hbyte' : w3.cell? ad2 = some (.int .u8 142) := hbyte
    rw [hl]
    clear hcell hbyte hrow hg hcc hS hrel hun hC hcap add0 add1 hl
    go_wp2_with fail
    go_ret
    exact ⟨rfl, HB3.out⟩
theorem mmul_nil (A B : Option Addr) (l l' cap cap' : Nat) (w : World) : Calls Try.prog 60 #[.pointer none, .slice A l cap, .slice B l' cap'] w fun e w' => e = .returned (.tuple #[.slice none 0 0, .int .i64 15]) ∧ w' = w := by
  go_enter Try.func60, Try.ntmps60
  go_wp2_with fail
  go_ret2
  exact ⟨rfl, rfl⟩
theorem cauchy_nil (a b : Int) (w : World) : Calls Try.prog 57 #[.pointer none, .int .i64 a, .int .i64 b] w fun e w' => e = .returned (.tuple #[.slice none 0 0, .int .i64 15]) ∧ w' = w := by
  go_enter Try.func57, Try.ntmps57
  go_wp2_with fail
  go_ret2
  exact ⟨rfl, rfl⟩
theorem rank_nil (A : Option Addr) (l cap : Nat) (w : World) : Calls Try.prog 52 #[.pointer none, .slice A l cap] w fun e w' => e = .returned (.int .i64 0) ∧ w' = w := by
  go_enter Try.func52, Try.ntmps52
  go_wp2_with fail
  go_ret
  exact ⟨rfl, rfl⟩
set_option maxHeartbeats 1000000 in
set_option maxRecDepth 100000 in
theorem MatrixNil_walk (A : Option Addr) (m : List (List UInt8)) (cap : Nat) (hcap : m.length ≤ cap) (w : World) (hr : KBB.C w A m.length (bss m)) (n : Int) (n0 : -9223372036854775808 ≤ n) (n1 : n ≤ 9223372036854775807) :
    Calls Try.prog 17 #[.slice A m.length cap, .int .i64 n] w fun e w' => e = .returned (.bool true) ∧ Below w.heap.size w w' := by
  generalize m.length = l at *
  clear hr hcap
  go_enter Try.func17, Try.ntmps17
  go_wp2_with fail
  refine (wakes08 _).mono ?_
  rintro e w0 ⟨rfl, hb0⟩
  go_wp2_with fail
  refine (mmul_nil A A l l cap cap _).mono ?_
  rintro e w1 ⟨rfl, rfl⟩
  go_wp2_with fail
  refine (inverse_nil A l cap _).mono ?_
  rintro e w2 ⟨rfl, rfl⟩
  go_wp2_with fail
  refine (cauchy_nil n n _).mono ?_
  rintro e w3 ⟨rfl, rfl⟩
  go_wp2_with fail
  refine (rank_nil A l cap _).mono ?_
  rintro e w4 ⟨rfl, rfl⟩
  go_wp2_with fail
  go_ret
  exact ⟨rfl, hb0⟩
end Go.Proofs.Ytoijjlpkoniipaa
