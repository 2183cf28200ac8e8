/- The tables in memory; contracts of Mul, Inv, Div, Exp. -/
import Derived.Test.YtoijjlpkoniipaaProg
import Derived.Test.YtoijjlpkoniipaaGf
import Derived.Test.YtoijjlpkoniipaaWWords
import Derived.WalkKit
import Derived.BigQuiet
import Derived.Deep.QuietTactic
import Derived.WalkLawsBesides
import Derived.WalkSpells
import Derived.Lib.Hide
namespace Go.Proofs.Ytoijjlpkoniipaa
open Go.RowKit Go.Proofs.YtoijjlpkoniipaaW.PrintWords Gf

/-- A pointer's block holds the tables. -/
def Tab (w : World) (g : Nat) : Prop :=
  (∀ i, i < 510 → w.cell? ⟨g, i, none⟩ = some (.int .u8 ((E i).toNat : Int))) ∧ ∀ a : UInt8, w.cell? ⟨g, 510 + a.toNat, none⟩ = some (.int .i64 (L a : Int))

theorem b_zero {a : UInt8} (h : a = 0) : ((a.toNat : Int) == 0) = true := by subst h; rfl
theorem b_ne_zero {a : UInt8} (h : a ≠ 0) : ((a.toNat : Int) == 0) = false := by
  rw [beq_eq_false_iff_ne]
  intro e
  exact h (UInt8.toNat_inj.1 (by simpa using e))

set_option maxHeartbeats 1000000 in
theorem mul_calls (g : Nat) (a b : UInt8) (w : World) (ht : Tab w g) :
    Calls Try.prog 24 #[.pointer (some ⟨g, 0, none⟩), .int .u8 (a.toNat : Int), .int .u8 (b.toNat : Int)] w fun e w' => e = .returned (.int .u8 ((gm a b).toNat : Int)) ∧ Drawn0 w w' := by
  by_cases ha : a = 0
  · have h1 := b_zero ha
    have hfin := Lib.hid (show gm a b = 0 by rw [ha, gm_zero_left])
    clear ha
    go_enter Try.func24, Try.ntmps24
    go_wp2
    go_ret
    exact ⟨by rw [hfin.out]; rfl, Drawn0.refl _⟩
  · by_cases hb : b = 0
    · have h1 := b_ne_zero ha
      have h2 := b_zero hb
      have hfin := Lib.hid (show gm a b = 0 by rw [hb, gm_zero_right])
      clear ha hb
      go_enter Try.func24, Try.ntmps24
      go_wp2
      go_ret
      exact ⟨by rw [hfin.out]; rfl, Drawn0.refl _⟩
    · have h1 := b_ne_zero ha
      have h2 := b_ne_zero hb
      have f1 := ht.2 a
      have f2 := ht.2 b
      have f3 := ht.1 (L a + L b) (by have := L_lt a; have := L_lt b; omega)
      have l1 := L_lt a
      have l2 := L_lt b
      have l3 := a.toNat_lt
      have l4 := b.toNat_lt
      have hfin := Lib.hid (gm_ne ha hb)
      clear ha hb ht
      go_enter Try.func24, Try.ntmps24
      go_wp2
      go_quiet (fail)
      go_wp2
      go_ret
      exact ⟨by rw [hfin.out]; rfl, ⟨⟨_, rfl⟩⟩⟩

theorem inv_zero (g : Nat) (w : World) : Calls Try.prog 27 #[.pointer (some ⟨g, 0, none⟩), .int .u8 0] w fun e w' => e = .returned (.tuple #[.int .u8 0, .int .i64 14]) ∧ Drawn0 w w' := by
  go_enter Try.func27, Try.ntmps27
  go_wp2
  go_ret2
  exact ⟨rfl, Drawn0.refl _⟩
theorem inv_calls (g : Nat) (a : UInt8) (w : World) (ht : Tab w g) (ha : a ≠ 0) :
    Calls Try.prog 27 #[.pointer (some ⟨g, 0, none⟩), .int .u8 (a.toNat : Int)] w fun e w' => e = .returned (.tuple #[.int .u8 ((gi a).toNat : Int), .int .i64 0]) ∧ Drawn0 w w' := by
  have h1 := b_ne_zero ha
  have f1 := ht.2 a
  have l1 := L_lt a
  have f3 := ht.1 (255 - L a) (by omega)
  have l3 := a.toNat_lt
  have hfin := Lib.hid (show gi a = E (255 - L a) by simp [gi, ha])
  clear ha ht
  go_enter Try.func27, Try.ntmps27
  go_wp2
  go_quiet (fail)
  go_wp2
  go_ret2
  exact ⟨by rw [hfin.out]; rfl, ⟨⟨_, rfl⟩⟩⟩
theorem Tab.drewN {w : World} {g : Nat} (h : Tab w g) (n : Nat) : Tab (w.drewN n) g := h
theorem div_calls (g : Nat) (a b : UInt8) (w : World) (ht : Tab w g) (hb : b ≠ 0) :
    Calls Try.prog 28 #[.pointer (some ⟨g, 0, none⟩), .int .u8 (a.toNat : Int), .int .u8 (b.toNat : Int)] w fun e w' => e = .returned (.tuple #[.int .u8 ((gm a (gi b)).toNat : Int), .int .i64 0]) ∧ Drawn0 w w' := by
  go_enter Try.func28, Try.ntmps28
  go_wp2_with fail
  refine (inv_calls g b _ ht hb).mono ?_
  rintro e w' ⟨rfl, ⟨n, rfl⟩⟩
  go_wp2_with fail
  refine (mul_calls g a (gi b) _ (ht.drewN n)).mono ?_
  rintro e w' ⟨rfl, ⟨m, rfl⟩⟩
  go_wp2_with fail
  go_ret2
  exact ⟨rfl, by repeat (first | exact Drawn0.refl _ | apply Drawn0.step)⟩
theorem div_zero (g : Nat) (a : UInt8) (w : World) (ht : Tab w g) :
    Calls Try.prog 28 #[.pointer (some ⟨g, 0, none⟩), .int .u8 (a.toNat : Int), .int .u8 0] w fun e w' => e = .returned (.tuple #[.int .u8 0, .int .i64 14]) ∧ Drawn0 w w' := by
  go_enter Try.func28, Try.ntmps28
  go_wp2_with fail
  refine (inv_zero g _).mono ?_
  rintro e w' ⟨rfl, ⟨n, rfl⟩⟩
  go_wp2_with fail
  refine (mul_calls g a 0 _ (ht.drewN n)).mono ?_
  rintro e w' ⟨rfl, ⟨m, rfl⟩⟩
  go_wp2_with fail
  go_ret2
  exact ⟨by rw [gm_zero_right]; rfl, by repeat (first | exact Drawn0.refl _ | apply Drawn0.step)⟩
theorem exp_calls (g : Nat) (n : Int) (w : World) (ht : Tab w g) (h0 : -9223372036854775808 ≤ n) (h1 : n ≤ 9223372036854775807) :
    Calls Try.prog 25 #[.pointer (some ⟨g, 0, none⟩), .int .i64 n] w fun e w' => e = .returned (.int .u8 ((E (n % 255).toNat).toNat : Int)) ∧ Drawn0 w w' := by
  have t1 : -255 < n.tmod 255 := by have := Int.lt_tmod_of_pos n (show (0 : Int) < 255 by omega); omega
  have t2 : n.tmod 255 < 255 := Int.tmod_lt_of_pos n (by omega)
  have te : n.tmod 255 % 255 = n % 255 := by
    rw [Int.tmod_def]; omega
  have f3 := ht.1 ((n.tmod 255 % 255).toNat) (by omega)
  have hfin := Lib.hid te
  have b1 : 0 ≤ (n.tmod 255 + 255) % 255 := by omega
  have b2 : (n.tmod 255 + 255) % 255 < 510 := by omega
  clear te ht
  go_enter Try.func25, Try.ntmps25
  go_wp2
  go_ret
  exact ⟨by rw [← hfin.out]; rfl, Drawn0.refl _⟩
/-- Without tables. -/
theorem mul_nil (a b : Int) (w : World) : Calls Try.prog 24 #[.pointer none, .int .u8 a, .int .u8 b] w fun e w' => e = .returned (.int .u8 0) ∧ Drawn0 w w' := by
  go_enter Try.func24, Try.ntmps24
  go_wp2
  go_ret
  exact ⟨rfl, Drawn0.refl _⟩
theorem inv_nil (a : Int) (w : World) : Calls Try.prog 27 #[.pointer none, .int .u8 a] w fun e w' => e = .returned (.tuple #[.int .u8 0, .int .i64 15]) ∧ Drawn0 w w' := by
  go_enter Try.func27, Try.ntmps27
  go_wp2
  go_ret2
  exact ⟨rfl, Drawn0.refl _⟩
theorem div_nil (a b : Int) (w : World) : Calls Try.prog 28 #[.pointer none, .int .u8 a, .int .u8 b] w fun e w' => e = .returned (.tuple #[.int .u8 0, .int .i64 15]) ∧ Drawn0 w w' := by
  go_enter Try.func28, Try.ntmps28
  go_wp2_with fail
  refine (inv_nil b _).mono ?_
  rintro e w' ⟨rfl, ⟨n, rfl⟩⟩
  go_wp2_with fail
  refine (mul_nil a 0 _).mono ?_
  rintro e w' ⟨rfl, ⟨m, rfl⟩⟩
  go_wp2_with fail
  go_ret2
  exact ⟨rfl, by repeat (first | exact Drawn0.refl _ | apply Drawn0.step)⟩
theorem exp_nil (n : Int) (w : World) : Calls Try.prog 25 #[.pointer none, .int .i64 n] w fun e w' => e = .returned (.int .u8 0) ∧ Drawn0 w w' := by
  go_enter Try.func25, Try.ntmps25
  go_wp2
  go_ret
  exact ⟨rfl, Drawn0.refl _⟩
end Go.Proofs.Ytoijjlpkoniipaa
