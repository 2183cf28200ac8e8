/- The disk: New. -/
import Derived.Test.YtomihbanpjedeaaDisk2
import Derived.RegionTactic
import Derived.BigRegion
namespace Go.Proofs.Ytomihbanpjedeaa
open Go.RowKit
set_option linter.unusedSimpArgs false

theorem info78 : (Try.prog.info? 78).map (fun i => (i.zero, i.size, i.bytes)) = some (some (.agg (Array.replicate 64 (.int .u8 0))), 64, 64) := by kernel_rfl
theorem info78' : ∃ i, Try.prog.info? 78 = some i ∧ i.zero = some (.agg (Array.replicate 64 (.int .u8 0))) ∧ i.size = 64 ∧ i.bytes = 64 := by
  obtain ⟨i, hi, h⟩ := Option.map_eq_some_iff.1 info78
  simp only [Prod.mk.injEq] at h
  exact ⟨i, hi, h.1, h.2.1, h.2.2⟩
def zeros (n : Nat) : List Value := List.replicate n (.int .u8 0)
theorem bytes_zeros (n : Nat) : Bytes (zeros n) := fun u hu => ⟨0, (List.mem_replicate.1 hu).2⟩
def made78 (n : Nat) : Array Value := madeCells (Value.agg (Array.replicate 64 (.int .u8 0))).cells (n * 64)
theorem made78_eq (n : Nat) : (made78 n).toList = zeros (n * 64) := by
  unfold made78 zeros madeCells
  apply List.ext_getElem
  · simp
  · intro i h1 h2
    have hi : i % 64 < 64 := Nat.mod_lt _ (by decide)
    simp [Value.cells, hi]
theorem own_zeros (w : World) (n : Nat) (hn : n ≤ 2048) : (w.alloc (.cells (made78 n) 78)).ownsRow 0 78 64 (.slice (some ⟨w.heap.size, 0, none⟩) n n) n (zeros (n * 64)) := by
  rw [← made78_eq]
  exact World.ownsRow_lit w (made78 n) n (Nat.zero_le _) (by unfold maxLen; omega) (by have := congrArg List.length (made78_eq n); simpa [zeros] using this)
def St.new (n : Nat) : St := ⟨zeros (n * 64), zeros (n * 64), [], -1, false⟩
theorem St.new_ok (n : Nat) : (St.new n).Ok n := ⟨by simp [St.new, zeros], by simp [St.new, zeros], bytes_zeros _, bytes_zeros _, (fun p hp => by cases hp), by show (-9223372036854775808 : Int) ≤ -1; decide, by show (-1 : Int) ≤ 9223372036854775807; decide⟩

theorem new_dk (w : World) (n : Nat) (hn : n ≤ 2048) (i j : Nat) (hij : (i = 0 ∧ j = 1) ∨ (i = 1 ∧ j = 0)) :
    Dk (((w.alloc (.cells (made78 n) 78)).alloc (.cells (made78 n) 78)).alloc (.cells #[.slice (some ⟨w.heap.size + i, 0, none⟩) n n, .slice (some ⟨w.heap.size + j, 0, none⟩) n n, .slice none 0 0, .int .i64 (-1), .bool false] 75)) (fun k => w.heap.size ≤ k ∧ k < w.heap.size + 3) (w.heap.size + 2) n (St.new n) := by
  obtain ⟨W, hW⟩ : ∃ W, W = ((w.alloc (.cells (made78 n) 78)).alloc (.cells (made78 n) 78)) := ⟨_, rfl⟩
  have hs : W.heap.size = w.heap.size + 2 := by rw [hW]; simp
  have o0 : W.ownsRow 0 78 64 (.slice (some ⟨w.heap.size + 0, 0, none⟩) n n) n (zeros (n * 64)) := by rw [hW]; exact (own_zeros w n hn).alloc _
  have o1 : W.ownsRow 0 78 64 (.slice (some ⟨w.heap.size + 1, 0, none⟩) n n) n (zeros (n * 64)) := by rw [hW]; simpa using own_zeros (w.alloc (.cells (made78 n) 78)) n hn
  rw [← hW]
  have oi : ∀ k, k = 0 ∨ k = 1 → W.ownsRow 0 78 64 (.slice (some ⟨w.heap.size + k, 0, none⟩) n n) n (zeros (n * 64)) := by
    rintro k (rfl | rfl)
    · exact o0
    · exact o1
  refine ⟨w.heap.size + i, w.heap.size + j, n, n, .slice none 0 0, ?_, (oi i (by omega)).alloc _, (oi j (by omega)).alloc _, World.ownsRow_nil _ _ _ _, by omega, by omega, by omega, (fun g hg => by simp [Value.ownBlock] at hg), by omega, St.new_ok n⟩
  rw [← hs]
  exact heap_alloc_new _ _

set_option maxHeartbeats 2000000 in
set_option maxRecDepth 100000 in
theorem disk_new_calls (a : Int) (n : Nat) (hn : n ≤ 2048) (ha : max 0 (min a 2048) = (n : Int)) (w : World) :
    Calls Try.prog 17 #[.int .i64 a] w fun e w' => ∃ d F, e = .returned (.pointer (some ⟨d, 0, none⟩)) ∧ Dk w' F d n (St.new n) ∧ Below w.heap.size w w' ∧ (∀ i, F i → w.heap.size ≤ i ∧ i < w'.heap.size) := by
  obtain ⟨i0, hi, hz0, hz1, hz2⟩ := info78'
  have hmk : ∀ W : World, (Instr.makeSlice 72 (.int .i64 (n : Int)) (.int .i64 (n : Int))).run Try.prog W = .ok (.slice (some ⟨W.heap.size, 0, none⟩) n n) (W.alloc (.cells (made78 n) 78)) := by
    intro W
    have := run_make (P := Try.prog) W 72 78 i0 _ Try.underlying72 hi hz0 .i64 .i64 (n : Int) (n : Int) (by omega) (Int.le_refl _) (by rw [hz2]; omega) (by omega)
    rw [hz1] at this
    unfold made78
    simpa using this
  go_enter Try.func17, Try.ntmps17
  go_wp2_with fail
  have hbel : ∀ A B C : Obj, Below w.heap.size w (((w.drew.alloc A).alloc B).alloc C) := fun A B C =>
    ((((Below.refl _ w).drew).alloc (by simp) A).alloc (by simp) B).alloc (by simp; omega) C
  go_region
  · go_wp2
    go_ret
    exact ⟨_, _, rfl, new_dk w.drew n hn 0 1 (.inl ⟨rfl, rfl⟩), hbel _ _ _, fun i hi => ⟨hi.1, by have := hi.2; simp at this ⊢; omega⟩⟩
  · go_wp2
    go_ret
    exact ⟨_, _, rfl, new_dk w.drew n hn 1 0 (.inr ⟨rfl, rfl⟩), hbel _ _ _, fun i hi => ⟨hi.1, by have := hi.2; simp at this ⊢; omega⟩⟩
end Go.Proofs.Ytomihbanpjedeaa
