/- Walks of the laws over the field's scalars: wakes, GfField, GfMul, GfExp. -/
import Derived.Test.YtoijjlpkoniipaaMake
import Derived.Test.YtoijjlpkoniipaaMem
namespace Go.Proofs.Ytoijjlpkoniipaa
open Go.RowKit Go.Proofs.YtoijjlpkoniipaaW.PrintWords Gf

set_option maxHeartbeats 1000000 in
theorem wakes07 (w : World) : Calls Try.prog 22 #[] w fun e w' => e = .returned (.bool true) ∧ Below w.heap.size w w' := by
  have h1 : (((gm 128 2).toNat : Int) == 29) = true := by decide +kernel
  have h2 : (((E 8).toNat : Int) == 29) = true := by decide +kernel
  go_enter Try.func22, Try.ntmps22
  go_wp2_with fail
  refine (make_calls _).mono ?_
  rintro e w1 ⟨rfl, ht, hs, hb⟩
  go_wp2_with fail
  refine (mul_calls _ 128 2 _ ht).mono ?_
  rintro e w2 ⟨rfl, ⟨n, rfl⟩⟩
  go_wp2_with fail
  refine (exp_calls _ 8 _ (ht.drewN n) (by omega) (by omega)).mono ?_
  rintro e w2 ⟨rfl, ⟨m, rfl⟩⟩
  go_wp2_with fail
  go_ret
  exact ⟨rfl, pw_below_drewN hb _⟩

set_option maxHeartbeats 4000000 in
theorem GfField_walk (a b c : UInt8) (w : World) : Calls Try.prog 3 #[.int .u8 (a.toNat : Int), .int .u8 (b.toNat : Int), .int .u8 (c.toNat : Int)] w fun e w' => e = .returned (.bool true) ∧ Below w.heap.size w w' := by
  have h1 := b_eq (gm_comm a b)
  have h2 := b_eq (gm_assoc a b c)
  have x1 := u8_xor_all b c
  have x2 := u8_xor_all (gm a b) (gm a c)
  have h3 := b_eq (gm_ga a b c)
  have h5 := b_eq (gm_one a)
  have ways : a = 0 ∨ (a ≠ 0 ∧ b = 0) ∨ (a ≠ 0 ∧ b ≠ 0) := by
    by_cases ha : a = 0
    · exact .inl ha
    · by_cases hb : b = 0
      · exact .inr (.inl ⟨ha, hb⟩)
      · exact .inr (.inr ⟨ha, hb⟩)
  rcases ways with ha | ⟨ha, hb⟩ | ⟨ha, hb⟩
  case' inl => have h4 := b_zero (gm_eq_zero.2 (.inl ha) : gm a b = 0); have h6 := b_zero ha
  case' inr.inl => have h4 := b_zero (gm_eq_zero.2 (.inr hb) : gm a b = 0); have h6 := b_ne_zero ha; have h7 := b_zero hb; clear hb
  case' inr.inr => have h4 := b_ne_zero (gm_ne_zero ha hb); have h6 := b_ne_zero ha; have h7 := b_ne_zero hb; clear hb
  all_goals
    clear ha
    go_enter Try.func3, Try.ntmps3
    go_wp2_with fail
    refine (wakes07 _).mono ?_
    rintro e w0 ⟨rfl, hb0⟩
    go_wp2_with fail
    refine (make_calls _).mono ?_
    rintro e w1 ⟨rfl, ht, hs, hb1⟩
    go_wp2_with fail
    refine (mul_calls _ a b _ ht).mono ?_
    rintro e w2 ⟨rfl, ⟨n1, rfl⟩⟩
    go_wp2_with fail
    refine (mul_calls _ b a _ (ht.drewN _)).mono ?_
    rintro e w2 ⟨rfl, ⟨n1, rfl⟩⟩
    go_wp2_with fail
    refine (mul_calls _ b c _ (ht.drewN _)).mono ?_
    rintro e w2 ⟨rfl, ⟨n1, rfl⟩⟩
    go_wp2_with fail
    refine (mul_calls _ a (gm b c) _ (ht.drewN _)).mono ?_
    rintro e w2 ⟨rfl, ⟨n1, rfl⟩⟩
    go_wp2_with fail
    refine (mul_calls _ a b _ (ht.drewN _)).mono ?_
    rintro e w2 ⟨rfl, ⟨n1, rfl⟩⟩
    go_wp2_with fail
    refine (mul_calls _ (gm a b) c _ (ht.drewN _)).mono ?_
    rintro e w2 ⟨rfl, ⟨n1, rfl⟩⟩
    go_wp2_with fail
    refine (mul_calls _ a (ga b c) _ (ht.drewN _)).mono ?_
    rintro e w2 ⟨rfl, ⟨n1, rfl⟩⟩
    go_wp2_with fail
    refine (mul_calls _ a b _ (ht.drewN _)).mono ?_
    rintro e w2 ⟨rfl, ⟨n1, rfl⟩⟩
    go_wp2_with fail
    refine (mul_calls _ a c _ (ht.drewN _)).mono ?_
    rintro e w2 ⟨rfl, ⟨n1, rfl⟩⟩
    go_wp2_with fail
    refine (mul_calls _ a b _ (ht.drewN _)).mono ?_
    rintro e w2 ⟨rfl, ⟨n1, rfl⟩⟩
    go_wp2_with fail
    refine (mul_calls _ a 1 _ (ht.drewN _)).mono ?_
    rintro e w2 ⟨rfl, ⟨n1, rfl⟩⟩
    go_wp2_with fail
    go_ret
    exact ⟨rfl, pw_below_drewN (below_then hb0 hb0.size hb1) _⟩

end Go.Proofs.Ytoijjlpkoniipaa
