/- A pair of numbers in memory; numbers that are appended; lists of texts handed to laws. -/
import Derived.Test.YtoijjlpkoniipaaRsCode
set_option linter.unusedVariables false
set_option linter.unusedSimpArgs false
namespace Go.Proofs.Ytoijjlpkoniipaa
open Go.RowKit Go.Proofs.YtoijjlpkoniipaaW.PrintWords Go.Proofs.YtoijjlpkoniipaaW.PrintLast Gf Lin
/-- Two numbers lie at gb. -/
structure Bx (w : World) (gb : Nat) (ka nb : Int) : Prop where
  blk : w.heap[gb]? = some (.cells #[.int .i64 ka, .int .i64 nb] 49)
  lt : gb < w.heap.size
theorem Bx.below {w w1 : World} {gb : Nat} {ka nb : Int} (h : Bx w gb ka nb) (hb : Below w.heap.size w w1) : Bx w1 gb ka nb := ⟨(hb.block gb h.lt).trans h.blk, by have := hb.size; have := h.lt; omega⟩
theorem Bx.c0 {w : World} {gb : Nat} {ka nb : Int} (h : Bx w gb ka nb) : w.cell? ⟨gb, 0, none⟩ = some (.int .i64 ka) := by rw [cell_of_row _ _ _ _ _ _ h.blk]; rfl
theorem Bx.c1 {w : World} {gb : Nat} {ka nb : Int} (h : Bx w gb ka nb) : w.cell? ⟨gb, 1, none⟩ = some (.int .i64 nb) := by rw [cell_of_row _ _ _ _ _ _ h.blk]; rfl
theorem Bx.new (w : World) (ka nb : Int) : Bx (w.alloc (.cells #[.int .i64 ka, .int .i64 nb] 49)) w.heap.size ka nb := ⟨heap_alloc_new w _, by simp⟩
theorem docEnc_rowsle {k n : Nat} {m : List (List UInt8)} {L : Nat} (h : ∀ r ∈ m, r.length ≤ L) : PRsEncode.Rowsle (docEnc k n m).1 L := by
  by_cases hc : m.length = k ∧ Alike m
  · rw [docEnc_ok hc.1 hc.2]
    intro r hr
    rw [encB_mem hr]
    cases m with
    | nil => simp
    | cons a l => exact h a (by simp)
  · rw [docEnc_no hc]
    intro r hr; cases hr
end Go.Proofs.Ytoijjlpkoniipaa
