/- Matrices: one byte of a row set. -/
import Derived.Test.YtoijjlpkoniipaaMatSwap
namespace Go.Proofs.Ytoijjlpkoniipaa
open Go.RowKit Go.Proofs.YtoijjlpkoniipaaW.PrintWords Go.Proofs.YtoijjlpkoniipaaW.PrintLast Gf Lin
set_option linter.unusedSimpArgs false
theorem Wk.setM {w : World} {g gt gm ga gs gb n c d : Nat} {p q : Nat → Nat} {M S : Lin.M} (h : Wk w g gt gm ga gs gb n c d p q M S) {i j : Nat} (hi : i < n) (hj : j < c) (v : UInt8) :
    Wk (w.setCell ⟨ga, p i * c + j, none⟩ (.int .u8 (v.toNat : Int))) g gt gm ga gs gb n c d p q (updM M i j v) S := by
  have k1 : ∀ x, x ≠ ga → (w.setCell ⟨ga, p i * c + j, none⟩ (.int .u8 (v.toNat : Int))).heap[x]? = w.heap[x]? := fun x hx => Below.heap_setCell _ _ _ x hx
  obtain ⟨e1, e2, e3, e4, e5, e6⟩ := h.ne1
  obtain ⟨f1, f2, f3, f4⟩ := h.ne2
  obtain ⟨g1, g2, g3, g4⟩ := h.ne3
  exact ⟨(k1 g f2).trans h.blk, tab_same h.tab (k1 gt g2), h.m.set h.pp e1 hi hj v, h.s.same (k1 gs (Ne.symm e5)) (k1 gb (Ne.symm e6)), h.pp, h.pq, h.ne1, h.ne2, h.ne3, by simpa using h.lt, h.n1, h.c1, h.d1⟩
theorem Wk.setS {w : World} {g gt gm ga gs gb n c d : Nat} {p q : Nat → Nat} {M S : Lin.M} (h : Wk w g gt gm ga gs gb n c d p q M S) {i j : Nat} (hi : i < n) (hj : j < d) (v : UInt8) :
    Wk (w.setCell ⟨gb, q i * d + j, none⟩ (.int .u8 (v.toNat : Int))) g gt gm ga gs gb n c d p q M (updM S i j v) := by
  have k1 : ∀ x, x ≠ gb → (w.setCell ⟨gb, q i * d + j, none⟩ (.int .u8 (v.toNat : Int))).heap[x]? = w.heap[x]? := fun x hx => Below.heap_setCell _ _ _ x hx
  obtain ⟨e1, e2, e3, e4, e5, e6⟩ := h.ne1
  obtain ⟨f1, f2, f3, f4⟩ := h.ne2
  obtain ⟨g1, g2, g3, g4⟩ := h.ne3
  exact ⟨(k1 g f4).trans h.blk, tab_same h.tab (k1 gt g4), h.m.same (k1 gm e4) (k1 ga e6), h.s.set h.pq e2 hi hj v, h.pp, h.pq, h.ne1, h.ne2, h.ne3, by simpa using h.lt, h.n1, h.c1, h.d1⟩
/-- The first j bytes of a row have a multiple of another row added. -/
def addTo (ti src : Nat) (a : UInt8) (j : Nat) (M : Lin.M) : Lin.M := fun x b => if x = ti ∧ b < j then M x b ^^^ gm a (M src b) else M x b
theorem addTo_zero (ti src : Nat) (a : UInt8) (M : Lin.M) : addTo ti src a 0 M = M := by funext x b; unfold addTo; rw [if_neg (by omega)]
theorem addTo_at {ti src j : Nat} (a : UInt8) (M : Lin.M) : addTo ti src a j M ti j = M ti j := by unfold addTo; rw [if_neg (by omega)]
theorem addTo_src {ti src j b : Nat} (a : UInt8) (M : Lin.M) (h : ti ≠ src) : addTo ti src a j M src b = M src b := by unfold addTo; rw [if_neg (by omega)]
theorem addTo_step {ti src j : Nat} (a : UInt8) (M : Lin.M) (x b : Nat) : updM (addTo ti src a j M) ti j (M ti j ^^^ gm a (M src j)) x b = addTo ti src a (j + 1) M x b := by
  unfold updM
  by_cases h1 : x = ti ∧ b = j
  · obtain ⟨rfl, rfl⟩ := h1
    rw [if_pos ⟨rfl, rfl⟩]; unfold addTo; rw [if_pos ⟨rfl, by omega⟩]
  · rw [if_neg h1]; unfold addTo
    by_cases h2 : x = ti ∧ b < j
    · rw [if_pos h2, if_pos ⟨h2.1, by omega⟩]
    · rw [if_neg h2, if_neg (by omega)]
theorem addTo_done {ti src c : Nat} (a : UInt8) (M : Lin.M) (x b : Nat) (hb : b < c) : addRow ti src a M x b = addTo ti src a c M x b := by
  unfold addRow addTo
  by_cases h : x = ti
  · rw [if_pos h, if_pos ⟨h, hb⟩]
  · rw [if_neg h, if_neg (by omega)]
end Go.Proofs.Ytoijjlpkoniipaa
