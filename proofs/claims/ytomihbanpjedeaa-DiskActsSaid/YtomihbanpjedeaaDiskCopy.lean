/- The disk: what a crash makes of a sector. -/
import Derived.Test.YtomihbanpjedeaaDiskLeft
namespace Go.Proofs.Ytomihbanpjedeaa
open Go.RowKit
set_option linter.unusedSimpArgs false

theorem left_calls2 (p : Pl) (i : Nat) (hi : i ≤ 1000000) (hk : p.keep < 18446744073709551616) (w : World) : Calls Try.prog 39 #[.int .i64 (i : Int), p.val] w fun e w' => e = .returned (.int .i64 (p.left i : Nat)) ∧ Below w.heap.size w w' := by
  by_cases h : (i : Int) = p.torn
  · exact left_torn p i h w
  · exact left_kept p i hi hk h w
/-- The first bytes of a write, copied into its sector. -/
theorem copy_sec {w : World} {g n c k L cc r : Nat} {xs ks : List Value} (h : w.ownsRow 0 78 64 (.slice (some ⟨g, 0, none⟩) n c) n xs) (hk : k < n) (hL : L ≤ 64) (hl : ks.length = 64) (hb : Bytes ks) (hr : ∀ j u, ks[j]? = some u → w.cell? ((⟨r, 1, none⟩ : Addr).add j) = some u) (ty : TypeId) :
    ∃ w', (Builtin.copy_ #[41, 41] ty #[.slice (some ⟨g, k * 64, none⟩) L cc, .slice (some ⟨r, 1, none⟩) 64 64]).run Try.prog w = .ok (goInt L) w' ∧ w'.ownsRow 0 78 64 (.slice (some ⟨g, 0, none⟩) n c) n (put xs k (ks.take L)) ∧ w.grownBy w' (some g) ∧ w'.heap.size = w.heap.size := by
  have hlt : (ks.take L).length = L := by rw [List.length_take]; omega
  obtain ⟨w', hst, h2, h3, h4⟩ := store_cells h hk (ks := ks.take L) (by omega) (fun u hu => hb u (List.mem_of_mem_take hu))
  refine ⟨w', ?_, h2, h3, h4⟩
  have hld := run_loadCells_list (P := Try.prog) w ⟨r, 1, none⟩ (ks.take L) (fun j u hj => hr j u (by rw [List.getElem?_take] at hj; split at hj <;> simp_all))
  rw [hlt] at hld
  obtain ⟨i5, hi5, h5⟩ := Option.map_eq_some_iff.1 info5
  simp only [Prod.mk.injEq] at h5
  have hm : Nat.min 64 L = L := Nat.min_eq_right hL
  simp [Builtin.copy_, run_underlying Try.underlying41, Builtin.lenOf, Builtin.firstCells, sizeOf, typeInfo, hi5, h5.2.1, hm, hld, hst]
/-- A write, loaded. -/
theorem load_write {w : World} {a : Addr} {cs : List Value} (hl : cs.length = 65) (hc : ∀ j u, cs[j]? = some u → w.cell? (a.add j) = some u) : (loadVar 81 a).run Try.prog w = .ok (.agg cs.toArray) w := by
  have h := run_loadCells_list (P := Try.prog) w a cs hc
  rw [hl] at h
  obtain ⟨i0, hi, hz0, hz1, hz2⟩ := info81'
  have hagg : (isAgg 81).run Try.prog w = .ok true w := by
    unfold isAgg
    rw [Sem.run_bind, run_underlying Try.underlying81 w]
    rfl
  simp [loadVar, Sem.run_bind, hagg, sizeOf, typeInfo, hi, hz1, h]
/-- The sectors, i writes on. -/
def crashTo (p : Pl) (pn : List (Nat × List Value)) (xs : List Value) : Nat → List Value
  | 0 => xs
  | i + 1 => put (crashTo p pn xs i) (pn.getD i (0, [])).1 ((pn.getD i (0, [])).2.take (p.left i))
theorem flat_at {pn : List (Nat × List Value)} (h : ∀ q ∈ pn, q.2.length = 64) : ∀ {i : Nat}, i < pn.length → ((flat pn).drop (i * 65)).take 65 = .int .i64 ((pn.getD i (0, [])).1 : Int) :: (pn.getD i (0, [])).2 := by
  induction pn with
  | nil => intro i hi; simp at hi
  | cons q pn ih =>
    intro i hi
    have hq : (Value.int .i64 (q.1 : Int) :: q.2).length = 65 := by simp [h q (by simp)]
    have hf : flat (q :: pn) = (Value.int .i64 (q.1 : Int) :: q.2) ++ flat pn := by simp [flat]
    rw [hf]
    cases i with
    | zero =>
      rw [Nat.zero_mul, List.drop_zero, List.take_append_of_le_length (by omega), List.take_of_length_le (by omega)]
      simp
    | succ i =>
      rw [List.drop_append, List.drop_of_length_le (by omega), List.nil_append, hq, show (i + 1) * 65 - 65 = i * 65 by omega, ih (fun r hr => h r (by simp [hr])) (by simpa using hi)]
      simp
end Go.Proofs.Ytomihbanpjedeaa
