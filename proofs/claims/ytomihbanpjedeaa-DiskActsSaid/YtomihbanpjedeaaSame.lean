/- Bytes that are alike. -/
import Derived.Test.YtomihbanpjedeaaDiskDo
namespace Go.Proofs.Ytomihbanpjedeaa
open Go.RowKit
set_option linter.unusedSimpArgs false
/-- Bytes from A on. -/
def Bts (w : World) (A : Option Addr) (xs : List Value) : Prop := Bytes xs ∧ (0 < xs.length → ∃ a, A = some a ∧ ∀ j u, xs[j]? = some u → w.cell? (a.add j) = some u)
theorem Bts.below {w w1 : World} {A : Option Addr} {xs : List Value} (h : Bts w A xs) (hb : Below w.heap.size w w1) : Bts w1 A xs :=
  ⟨h.1, fun hn => by obtain ⟨a, ha, hc⟩ := h.2 hn; exact ⟨a, ha, fun j u hj => pw_cell_below hb (hc j u hj)⟩⟩
set_option maxHeartbeats 2000000 in
set_option maxRecDepth 100000 in
theorem same_bytes (A B : Option Addr) (n ca cb : Nat) (xs : List Value) (w : World) (h : Bts w A xs) (h' : Bts w B xs) (hl : xs.length = n) (hn : n ≤ 1000000) :
    Calls Try.prog 22 #[.slice A n ca, .slice B n cb] w fun e w' => e = .returned (.bool true) ∧ ∃ m, w' = w.drewN m := by
  go_enter Try.func22, Try.ntmps22
  go_wp2
  go_loopw [5] (fun i wr => ∃ k : Nat, k ≤ n ∧ i = .int .i64 k ∧ ∃ m, wr = w.drewN m) (fun i _ => n - (intOf i).toNat)
  case atStart => exact ⟨0, by omega, rfl, 0, rfl⟩
  case round =>
    obtain ⟨k, hk, rfl, m, rfl⟩ := hrel
    by_cases hlt : k < n
    · obtain ⟨a, rfl, hca⟩ := h.2 (by omega)
      obtain ⟨b, rfl, hcb⟩ := h'.2 (by omega)
      obtain ⟨x, hx⟩ := h.1 xs[k] (List.getElem_mem _)
      have hxk : xs[k]? = some (.int .u8 (x.toNat : Int)) := by rw [List.getElem?_eq_getElem (by omega), hx]
      have ha := hca k _ hxk
      have hb := hcb k _ hxk
      have i1 : (0 : Int) ≤ (k : Int) := by omega
      have i2 : (k : Int) < (n : Int) := by omega
      have tt : ((x.toNat : Int) != (x.toNat : Int)) = false := by simp
      clear hx hxk hca hcb
      go_wp2_with fail
      go_quiet (fail)
      go_wp2
      exact ⟨⟨k + 1, by omega, by go_num, m + nq, rfl⟩, by simp [intOf]; omega⟩
    · obtain rfl : k = n := by omega
      go_wp2
      go_ret
      exact ⟨rfl, m, rfl⟩
end Go.Proofs.Ytomihbanpjedeaa
