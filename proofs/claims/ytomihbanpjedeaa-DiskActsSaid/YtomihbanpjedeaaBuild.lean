/- A list of one key, built. -/
import Derived.Test.YtomihbanpjedeaaEq
import Derived.Deep.WholeRow
namespace Go.Proofs.Ytomihbanpjedeaa
open Go.RowKit
set_option linter.unusedSimpArgs false

theorem fold_set : ∀ (l : List Value) (i : Nat) (z : Array Value), i + l.length = z.size →
    (l.zipIdx i).foldl (fun a (p : Value × Nat) => a.setIfInBounds p.2 p.1) z = (z.toList.take i ++ l).toArray
  | [], i, z, h => by
    simp at h
    subst h
    simp [List.take_of_length_le]
  | c :: l, i, z, h => by
    simp only [List.length_cons] at h
    rw [List.zipIdx_cons, List.foldl_cons, fold_set l (i + 1) (z.setIfInBounds i c) (by simp; omega)]
    congr 1
    have hi : i < z.toList.length := by simp; omega
    rw [Array.toList_setIfInBounds, List.take_succ_eq_append_getElem (by simpa using hi)]
    simp [List.take_set_of_le]
theorem build_one {ks : List Value} (hl : ks.length = 32) (W : World) : (Instr.buildSlice 22 1 #[(0, .agg ks.toArray)]).run Try.prog W = .ok (.slice (some ⟨W.heap.size, 0, none⟩) 1 1) (W.alloc (.cells ks.toArray 29)) := by
  obtain ⟨i0, hi, hz0, hz1, hz2⟩ := info29'
  have hf : ∀ z : Array Value, z.size = 32 → (ks.toArray.zipIdx.foldl (fun cs (x : Value × Nat) => cs.setIfInBounds (0 * 32 + x.2) x.1) z) = ks.toArray := by
    intro z hz
    have h := fold_set ks 0 z (by omega)
    simp only [List.take_zero, List.nil_append] at h
    rw [← Array.foldl_toList]
    simpa using h
  have hfill : ∀ z : Array Value, z.size = 32 → Instr.fill (fun i => some (i * 32, 32)) z [(0, .agg ks.toArray)] = some ks.toArray := by
    intro z hz
    unfold Instr.fill
    have hc : (Value.agg ks.toArray).cells = ks.toArray := rfl
    simp only [hc]
    rw [if_neg (by simp [hl, hz]), hf z hz]
    rfl
  have hsz : (sizeOf 29).run Try.prog W = .ok 32 W := by simp [sizeOf, typeInfo, hi, hz1]
  have hzv : (zeroValue 29).run Try.prog W = .ok (.agg (Array.replicate 32 (.int .u8 0))) W := by simp [zeroValue, typeInfo, hi, hz0]
  have hn : ∀ cs, (newRow 29 cs).run Try.prog W = .ok ⟨W.heap.size, 0, none⟩ (W.alloc (.cells cs 29)) := fun cs => by simp [newRow]
  simp only [Instr.buildSlice, Sem.run_bind, run_underlying Try.underlying22, Result.andThen, hsz]
  rw [if_neg (by decide), if_neg (by decide)]
  simp only [Sem.run_bind, hzv, Result.andThen, Sem.run_pure]
  rw [hfill _ (by simp)]
  simp only [Sem.run_bind, hn, Result.andThen, Sem.run_pure]
end Go.Proofs.Ytomihbanpjedeaa
