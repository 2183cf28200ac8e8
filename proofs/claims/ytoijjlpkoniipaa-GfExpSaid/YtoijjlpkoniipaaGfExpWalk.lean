/- The walk of GfExp. -/
import Derived.Test.YtoijjlpkoniipaaGfWalk
import Derived.Test.YtoijjlpkoniipaaRefMulX
namespace Go.Proofs.Ytoijjlpkoniipaa
open Go.RowKit Go.Proofs.YtoijjlpkoniipaaW.PrintWords Gf

/-- The n-th power of the generator, n any number. -/
def xp (n : Int) : UInt8 := E (n % 255).toNat
theorem exp_any (g : Nat) (n : Int) (w : World) (ht : Tab w g) (h0 : -9223372036854775808 ≤ n) (h1 : n ≤ 9223372036854775807) :
    Calls Try.prog 25 #[.pointer (some ⟨g, 0, none⟩), .int .i64 n] w fun e w' => e = .returned (.int .u8 ((xp n).toNat : Int)) ∧ Drawn0 w w' := exp_calls g n w ht h0 h1
theorem xp_nat (n : Nat) : xp (n : Int) = E n := by
  unfold xp
  rw [show ((n : Int) % 255).toNat = n % 255 by omega, E_mod]
theorem xp_add (a b : Nat) : gm (xp a) (xp b) = xp ((a : Int) + (b : Int)) := by
  rw [show (a : Int) + (b : Int) = ((a + b : Nat) : Int) by omega, xp_nat, xp_nat, xp_nat, gm_st, E_add]

open PGfExp in
theorem refexp_loop (m d : Nat) (hm : m < 255) : ∀ i : Nat, m - i = d → i ≤ m → ∀ k, d + 9 < k → scriniumref07_Exp.l0 k (m : Int) ((E i).toNat : Int) (i : Int) = some ((E m).toNat : Int) := by
  induction d with
  | zero =>
    intro i hd hi k hk
    obtain ⟨k, rfl⟩ : ∃ j, k = j + 1 := ⟨k - 1, by omega⟩
    have : i = m := by omega
    subst this
    simp only [scriniumref07_Exp.l0]
    rw [if_neg (by omega)]
  | succ d ih =>
    intro i hd hi k hk
    obtain ⟨k, rfl⟩ : ∃ j, k = j + 1 := ⟨k - 1, by omega⟩
    simp only [scriniumref07_Exp.l0]
    have hm2 := mul_eq (E i) 2 k (by omega)
    rw [show ((2 : UInt8).toNat : Int) = 2 from rfl, gm_two] at hm2
    rw [if_pos (by omega), hm2]
    simp only [Option.bind_some]
    rw [show wrap64 ((i : Int) + 1) = ((i + 1 : Nat) : Int) by unfold wrap64; omega]
    exact ih (i + 1) (by omega) (by omega) k (by omega)
open PGfExp in
theorem refexp_eq (n : Int) (k : Nat) (hk : 266 < k) : scriniumref07_Exp.f k n = some ((xp n).toNat : Int) := by
  have t1 : -255 < n.tmod 255 := by have := Int.lt_tmod_of_pos n (show (0 : Int) < 255 by omega); omega
  have t2 : n.tmod 255 < 255 := Int.tmod_lt_of_pos n (by omega)
  have hx : 0 ≤ n % 255 ∧ n % 255 < 255 := by omega
  have fin : ∀ j, 265 < j → scriniumref07_Exp.j0 j ((n % 255).toNat : Int) = some ((xp n).toNat : Int) := fun j hj => by
    obtain ⟨j, rfl⟩ : ∃ i, j = i + 1 := ⟨j - 1, by omega⟩
    simp only [scriniumref07_Exp.j0]
    exact refexp_loop (n % 255).toNat (n % 255).toNat (by omega) 0 (by omega) (by omega) j (by omega)
  unfold scriniumref07_Exp.f
  by_cases hc : n.tmod 255 < 0
  · rw [if_pos hc]
    have e : wrap64 (n.tmod 255 + 255) = ((n % 255).toNat : Int) := by
      have : wrap64 (n.tmod 255 + 255) = n.tmod 255 + 255 := by unfold wrap64; omega
      rw [this]
      have := Int.tmod_def n 255
      omega
    rw [e]; exact fin k (by omega)
  · rw [if_neg hc]
    have e : n.tmod 255 = ((n % 255).toNat : Int) := by
      have := Int.tmod_def n 255
      omega
    rw [e]; exact fin k (by omega)
theorem ref_exp (n : Int) (w : World) : Calls Try.prog 26 #[.int .i64 n] w fun e w' => e = .returned (.int .u8 ((xp n).toNat : Int)) ∧ Drawn0 w w' :=
  PGfExp.scriniumref07_Exp.calls 267 _ _ w (refexp_eq n 267 (by omega))

set_option maxHeartbeats 4000000 in
theorem GfExp_walk (n : Int) (n0 : -9223372036854775808 ≤ n) (n1 : n ≤ 9223372036854775807) (a b : UInt8) (w : World) :
    Calls Try.prog 4 #[.int .i64 n, .int .u8 (a.toNat : Int), .int .u8 (b.toNat : Int)] w fun e w' => e = .returned (.bool true) ∧ Below w.heap.size w w' := by
  have h1 := b_eq (xp_add a.toNat b.toNat)
  have h2 : (((xp 255).toNat : Int) == 1) = true := by decide +kernel
  have la := a.toNat_lt
  have lb := b.toNat_lt
  go_enter Try.func4, Try.ntmps4
  go_wp2_with fail
  refine (wakes07 _).mono ?_
  rintro e w0 ⟨rfl, hb0⟩
  go_wp2_with fail
  refine (make_calls _).mono ?_
  rintro e w1 ⟨rfl, ht, hs, hb1⟩
  go_wp2_with fail
  refine (exp_any _ n _ ht n0 n1).mono ?_
  rintro e w2 ⟨rfl, ⟨m1, rfl⟩⟩
  go_wp2_with fail
  refine (ref_exp n _).mono ?_
  rintro e w2 ⟨rfl, ⟨m1, rfl⟩⟩
  go_wp2_with fail
  refine (exp_any _ a.toNat _ (ht.drewN _) (by omega) (by omega)).mono ?_
  rintro e w2 ⟨rfl, ⟨m1, rfl⟩⟩
  go_wp2_with fail
  refine (exp_any _ b.toNat _ (ht.drewN _) (by omega) (by omega)).mono ?_
  rintro e w2 ⟨rfl, ⟨m1, rfl⟩⟩
  go_wp2_with fail
  refine (mul_calls _ (xp a.toNat) (xp b.toNat) _ (ht.drewN _)).mono ?_
  rintro e w2 ⟨rfl, ⟨m1, rfl⟩⟩
  go_wp2_with fail
  refine (exp_any _ ((a.toNat : Int) + (b.toNat : Int)) _ (ht.drewN _) (by omega) (by omega)).mono ?_
  rintro e w2 ⟨rfl, ⟨m1, rfl⟩⟩
  go_wp2_with fail
  refine (exp_any _ 255 _ (ht.drewN _) (by omega) (by omega)).mono ?_
  rintro e w2 ⟨rfl, ⟨m1, rfl⟩⟩
  go_wp2_with fail
  go_ret
  exact ⟨rfl, pw_below_drewN (below_then hb0 hb0.size hb1) _⟩
end Go.Proofs.Ytoijjlpkoniipaa
