/- The disk: Crash. -/
import Derived.Test.YtomihbanpjedeaaDiskCopy
namespace Go.Proofs.Ytomihbanpjedeaa
open Go.RowKit Go.Proofs.YtomihbanpjedeaaW.PrintLast
set_option linter.unusedSimpArgs false

theorem crash_nil (p : Pl) (w : World) : Calls Try.prog 21 #[.pointer none, p.val] w fun e w' => e = .returned (.tuple #[]) ∧ Below w.heap.size w w' := by
  obtain ⟨keep, torn, cut⟩ := p
  unfold Pl.val
  simp only
  go_enter Try.func21, Try.ntmps21
  go_wp2
  refine bodyPost_ret (results_none rfl _ _ _) rfl ?_
  exact ⟨rfl, (Below.refl _ _).alloc (Nat.le_refl _) _⟩
def St.crash (s : St) (p : Pl) : St := ⟨crashTo p s.pn s.sy s.pn.length, crashTo p s.pn s.sy s.pn.length, [], -1, false⟩
theorem crashTo_length (p : Pl) {pn : List (Nat × List Value)} {xs : List Value} {n : Nat} (hx : xs.length = n * 64) (hp : ∀ q ∈ pn, q.1 < n ∧ q.2.length = 64 ∧ Bytes q.2) : ∀ i, i ≤ pn.length → (crashTo p pn xs i).length = n * 64
  | 0, _ => hx
  | i + 1, hi => by
    have hq := hp (pn.getD i (0, [])) (by simp [List.getD, List.getElem?_eq_getElem (show i < pn.length by omega)])
    exact put_length (crashTo_length p hx hp i (by omega)) hq.1 (by rw [List.length_take]; omega)
theorem crashTo_bytes (p : Pl) {pn : List (Nat × List Value)} {xs : List Value} {n : Nat} (hx : Bytes xs) (hp : ∀ q ∈ pn, q.1 < n ∧ q.2.length = 64 ∧ Bytes q.2) : ∀ i, i ≤ pn.length → Bytes (crashTo p pn xs i)
  | 0, _ => hx
  | i + 1, hi => by
    have hq := hp (pn.getD i (0, [])) (by simp [List.getD, List.getElem?_eq_getElem (show i < pn.length by omega)])
    exact put_bytes (crashTo_bytes p hx hp i (by omega)) (fun u hu => hq.2.2 u (List.mem_of_mem_take hu)) _
end Go.Proofs.Ytomihbanpjedeaa
