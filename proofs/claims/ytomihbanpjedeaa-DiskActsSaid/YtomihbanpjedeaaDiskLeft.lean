/- The disk: how many bytes of a write a crash leaves. -/
import Derived.Test.YtomihbanpjedeaaDiskWrites
import Derived.Laws.BitsLemmas
import Derived.Laws.Bits64
namespace Go.Proofs.Ytomihbanpjedeaa
open Go.RowKit
set_option linter.unusedSimpArgs false

/-- A plan: what is kept, which is torn, where. -/
structure Pl where
  keep : Nat
  torn : Int
  cut : Int
def Pl.val (p : Pl) : Value := .agg #[.int .u64 (p.keep : Int), .int .i64 p.torn, .int .i64 p.cut]
def Pl.left (p : Pl) (i : Nat) : Nat := if (i : Int) = p.torn then (max 0 (min p.cut 64)).toNat else p.keep / 2 ^ (i % 64) % 2 * 64
theorem Pl.left_le (p : Pl) (i : Nat) : p.left i ≤ 64 := by
  unfold Pl.left
  split
  · omega
  · have := Nat.mod_lt (p.keep / 2 ^ (i % 64)) (show 0 < 2 by omega)
    omega
set_option maxHeartbeats 2000000 in
set_option maxRecDepth 100000 in
theorem left_torn (p : Pl) (i : Nat) (h : (i : Int) = p.torn) (w : World) : Calls Try.prog 39 #[.int .i64 (i : Int), p.val] w fun e w' => e = .returned (.int .i64 (p.left i : Nat)) ∧ Below w.heap.size w w' := by
  obtain ⟨keep, torn, cut⟩ := p
  simp only at h
  have hl : (((Pl.mk keep torn cut).left i : Nat) : Int) = max 0 (min cut 64) := by unfold Pl.left; simp only; rw [if_pos h]; omega
  rw [hl]
  subst h
  unfold Pl.val
  simp only
  go_enter Try.func39, Try.ntmps39
  go_wp2
  go_ret
  exact ⟨rfl, (Below.refl _ _).alloc (Nat.le_refl _) _⟩
set_option maxHeartbeats 2000000 in
set_option maxRecDepth 100000 in
theorem left_kept (p : Pl) (i : Nat) (hi : i ≤ 1000000) (hk : p.keep < 18446744073709551616) (h : (i : Int) ≠ p.torn) (w : World) : Calls Try.prog 39 #[.int .i64 (i : Int), p.val] w fun e w' => e = .returned (.int .i64 (p.left i : Nat)) ∧ Below w.heap.size w w' := by
  obtain ⟨keep, torn, cut⟩ := p
  simp only at h hk
  have hl : (Pl.mk keep torn cut).left i = keep / 2 ^ (i % 64) % 2 * 64 := by unfold Pl.left; simp only; rw [if_neg h]
  rw [hl]
  have t1 : ((i : Int) == torn) = false := by simp [h]
  have hbit : wrap64 (wrap64 (bits BinOp.and IntKind.u64 ((keep : Int) / 2 ^ (i % 64)) 1) * 64) = ((keep / 2 ^ (i % 64) % 2 * 64 : Nat) : Int) := by
    have hw : ∀ n : Int, 0 ≤ n → n < 2 ^ 64 → IntKind.u64.wrap n = n := fun n h0 h1 => by rw [IntKind.wrap_u64]; omega
    have hq : ((keep : Int) / 2 ^ (i % 64)) = ((keep / 2 ^ (i % 64) : Nat) : Int) := by push_cast; rfl
    have hlt : keep / 2 ^ (i % 64) ≤ keep := Nat.div_le_self _ _
    rw [hq]
    clear hq
    generalize keep / 2 ^ (i % 64) = q at hlt ⊢
    have hm := bits_mask .u64 64 (by decide) hw 1 (by decide) (q : Int) (by omega) (by omega)
    have e : ((2 : Int) ^ 1 - 1) = 1 := by decide
    have e2 : ((2 : Int) ^ 1) = 2 := by decide
    rw [e, e2] at hm
    rw [hm]
    unfold wrap64
    omega
  unfold Pl.val
  simp only
  have HB := Lib.hid hbit
  clear hbit hl h
  go_enter Try.func39, Try.ntmps39
  go_wp2
  go_ret
  refine ⟨?_, (Below.refl _ _).alloc (Nat.le_refl _) _⟩
  show Ending.returned (Value.int .i64 _) = _
  rw [HB.out]
end Go.Proofs.Ytomihbanpjedeaa
