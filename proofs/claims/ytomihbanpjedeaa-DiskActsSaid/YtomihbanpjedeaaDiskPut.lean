/- A sector stored; wide loads and stores in a region that draws its order. -/
import Derived.Test.YtomihbanpjedeaaDiskRead
namespace Go.Proofs.Ytomihbanpjedeaa
open Go.RowKit
set_option linter.unusedSimpArgs false

theorem exec_load {P : Program} {w : World} {ρ : Operand → Value} {o : Oper} (ty : TypeId) (x : Operand) (ho : o.op = .load ty x) (ad : Addr) (hx : ρ x = .pointer (some ad)) (v : Value) (hr : (loadVar ty ad).run P w = .ok v w) : (execOp ρ o).run P w = .ok (.value v) w := by
  unfold execOp
  simp only [ho, hx, Instr.loadAt, Instr.sureAddr, Sem.run_bind, Sem.run_pure, Result.andThen_ok, hr]
theorem exec_store {P : Program} {w w' : World} {ρ : Operand → Value} {o : Oper} (ty : TypeId) (x y : Operand) (ho : o.op = .store ty x y) (ad : Addr) (hx : ρ x = .pointer (some ad)) (v : Value) (hy : ρ y = v) (hr : (storeVar ty ad v).run P w = .ok () w') : (execOp ρ o).run P w = .ok .skip w' := by
  unfold execOp
  simp only [ho, hx, hy, Instr.storeAt, Instr.sureAddr, Sem.run_bind, Sem.run_pure, Result.andThen_ok, hr]

def put (xs : List Value) (k : Nat) (ks : List Value) : List Value := xs.take (k * 64) ++ ks ++ xs.drop (k * 64 + ks.length)
theorem put_length {xs ks : List Value} {n k : Nat} (h : xs.length = n * 64) (hk : k < n) (hl : ks.length ≤ 64) : (put xs k ks).length = n * 64 := by unfold put; simp [h]; omega
theorem put_bytes {xs ks : List Value} (h : Bytes xs) (hk : Bytes ks) (k : Nat) : Bytes (put xs k ks) := fun u hu => by
  unfold put at hu
  rcases List.mem_append.1 hu with hu | hu
  · rcases List.mem_append.1 hu with hu | hu
    · exact h u (List.mem_of_mem_take hu)
    · exact hk u hu
  · exact h u (List.mem_of_mem_drop hu)
/-- Cells written into a row of sectors, from a sector's head on. -/
theorem store_cells {w : World} {g n c k : Nat} {xs ks : List Value} (h : w.ownsRow 0 78 64 (.slice (some ⟨g, 0, none⟩) n c) n xs) (hk : k < n) (hl : ks.length ≤ 64) (hb : Bytes ks) :
    ∃ w', (storeCells ⟨g, k * 64, none⟩ ks 0).run Try.prog w = .ok () w' ∧ w'.ownsRow 0 78 64 (.slice (some ⟨g, 0, none⟩) n c) n (put xs k ks) ∧ w.grownBy w' (some g) ∧ w'.heap.size = w.heap.size := by
  rcases h.2 with ⟨e, _⟩ | ⟨g', cap, cur, e, hb0, hg, hnc, hcm, hcs, htake⟩
  · simp at e
  · simp only [Value.slice.injEq, Option.some.injEq, Addr.mk.injEq, and_true, true_and] at e
    obtain ⟨rfl, rfl⟩ := e
    have hfit : k * 64 + 0 + ks.length ≤ cur.size := by
      have : (k + 1) * 64 ≤ c * 64 := Nat.mul_le_mul_right _ (by omega)
      omega
    have hst := run_storeCells_at Try.prog g (k * 64) 78 ks 0 cur w hg hfit hb.one
    simp only [Nat.add_zero] at hst
    refine ⟨_, hst, ⟨?_, .inr ⟨g, c, _, rfl, Nat.zero_le _, setRow_heap w g cur _ 78 _ hg, hnc, hcm, ?_, ?_⟩⟩, ⟨rfl, rfl, rfl, by simp [World.setRow], fun j _ hj => setRow_other w g j _ (fun e => hj (by rw [e]))⟩, by simp [World.setRow]⟩
    · exact put_length h.1 hk hl
    · simp only [List.size_toArray, List.length_append, List.length_take, List.length_drop, Array.length_toList]; omega
    · have hkn : (k + 1) * 64 ≤ n * 64 := Nat.mul_le_mul_right _ hk
      unfold put
      rw [← htake]
      have hL : cur.toList.length = cur.size := Array.length_toList
      generalize cur.toList = L at hL ⊢
      have e1 : (L.take (k * 64)).length = k * 64 := by rw [List.length_take]; omega
      rw [List.take_append, List.take_append, List.length_append, e1, List.take_take, List.take_take, List.drop_take, List.take_of_length_le (l := ks) (by omega), Nat.min_eq_right (by omega), Nat.min_eq_left (by omega)]
theorem store_sec {w : World} {g n c k : Nat} {xs ks : List Value} (h : w.ownsRow 0 78 64 (.slice (some ⟨g, 0, none⟩) n c) n xs) (hk : k < n) (hl : ks.length = 64) (hb : Bytes ks) :
    ∃ w', (storeVar 78 ⟨g, k * 64, none⟩ (.agg ks.toArray)).run Try.prog w = .ok () w' ∧ w'.ownsRow 0 78 64 (.slice (some ⟨g, 0, none⟩) n c) n (put xs k ks) ∧ w.grownBy w' (some g) ∧ w'.heap.size = w.heap.size := by
  obtain ⟨w', hr, h2, h3, h4⟩ := store_cells h hk (by omega) hb
  refine ⟨w', ?_, h2, h3, h4⟩
  obtain ⟨i0, hi, hz0, hz1, hz2⟩ := info78'
  simp [storeVar, sizeOf, typeInfo, hi, Value.cells, hz1, hl, hr]
end Go.Proofs.Ytomihbanpjedeaa
