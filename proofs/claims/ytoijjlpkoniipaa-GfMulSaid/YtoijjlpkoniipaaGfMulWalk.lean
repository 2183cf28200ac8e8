/- The walk of GfMul. -/
import Derived.Test.YtoijjlpkoniipaaGfWalk
import Derived.Test.YtoijjlpkoniipaaRefCallsR
namespace Go.Proofs.Ytoijjlpkoniipaa
open Go.RowKit Go.Proofs.YtoijjlpkoniipaaW.PrintWords Gf

/-- The error of an inverse. -/
def ez (a : UInt8) : Int := if a = 0 then 14 else 0
theorem inv_any (g : Nat) (a : UInt8) (w : World) (ht : Tab w g) :
    Calls Try.prog 27 #[.pointer (some ⟨g, 0, none⟩), .int .u8 (a.toNat : Int)] w fun e w' => e = .returned (.tuple #[.int .u8 ((gi a).toNat : Int), .int .i64 (ez a)]) ∧ Drawn0 w w' := by
  by_cases ha : a = 0
  · subst ha; exact inv_zero g w
  · rw [show ez a = 0 by simp [ez, ha]]; exact inv_calls g a w ht ha
theorem div_any (g : Nat) (a b : UInt8) (w : World) (ht : Tab w g) :
    Calls Try.prog 28 #[.pointer (some ⟨g, 0, none⟩), .int .u8 (a.toNat : Int), .int .u8 (b.toNat : Int)] w fun e w' => e = .returned (.tuple #[.int .u8 ((gm a (gi b)).toNat : Int), .int .i64 (ez b)]) ∧ Drawn0 w w' := by
  by_cases hb : b = 0
  · subst hb; rw [gi_zero, gm_zero_right]; exact div_zero g a w ht
  · rw [show ez b = 0 by simp [ez, hb]]; exact div_calls g a b w ht hb
theorem ez_zero {a : UInt8} (h : a = 0) : (ez a == 14) = true := by subst h; rfl
theorem ez_ne {a : UInt8} (h : a ≠ 0) : (ez a == 14) = false ∧ (ez a == 0) = true := by simp [ez, h]

set_option maxHeartbeats 4000000 in
theorem GfMul_zz (a b : UInt8) (w : World) (ha : a = 0) (hb : b = 0) : Calls Try.prog 5 #[.int .u8 (a.toNat : Int), .int .u8 (b.toNat : Int)] w fun e w' => e = .returned (.bool true) ∧ Below w.heap.size w w' := by
  have h1 := b_zero ha
  have h2 := b_zero hb
  have h3 := ez_zero ha
  have h4 := ez_zero hb
  clear ha hb
  go_enter Try.func5, Try.ntmps5
  go_wp2_with fail
  refine (wakes07 _).mono ?_
  rintro e w0 ⟨rfl, hb0⟩
  go_wp2_with fail
  refine (make_calls _).mono ?_
  rintro e w1 ⟨rfl, ht, hs, hb1⟩
  go_wp2_with fail
  refine (inv_any _ a _ ht).mono ?_
  rintro e w2 ⟨rfl, ⟨n1, rfl⟩⟩
  go_wp2_with fail
  refine (div_any _ a b _ (ht.drewN _)).mono ?_
  rintro e w2 ⟨rfl, ⟨n1, rfl⟩⟩
  go_wp2_with fail
  refine (mul_calls _ a b _ (ht.drewN _)).mono ?_
  rintro e w2 ⟨rfl, ⟨n1, rfl⟩⟩
  go_wp2_with fail
  refine (ref_mul a b _).mono ?_
  rintro e w2 ⟨rfl, ⟨n1, rfl⟩⟩
  go_wp2_with fail
  refine (ref_inv a _).mono ?_
  rintro e w2 ⟨rfl, ⟨n1, rfl⟩⟩
  go_wp2_with fail
  go_ret
  exact ⟨rfl, pw_below_drewN (below_then hb0 hb0.size hb1) _⟩
set_option maxHeartbeats 4000000 in
theorem GfMul_zn (a b : UInt8) (w : World) (ha : a = 0) (hb : b ≠ 0) : Calls Try.prog 5 #[.int .u8 (a.toNat : Int), .int .u8 (b.toNat : Int)] w fun e w' => e = .returned (.bool true) ∧ Below w.heap.size w w' := by
  have h1 := b_zero ha
  have h2 := b_ne_zero hb
  have h3 := ez_zero ha
  obtain ⟨h4, h5⟩ := ez_ne hb
  have h6 := b_eq (show gm (gm a (gi b)) b = a by rw [← gm_assoc, gi_gm hb, gm_one])
  clear ha hb
  go_enter Try.func5, Try.ntmps5
  go_wp2_with fail
  refine (wakes07 _).mono ?_
  rintro e w0 ⟨rfl, hb0⟩
  go_wp2_with fail
  refine (make_calls _).mono ?_
  rintro e w1 ⟨rfl, ht, hs, hb1⟩
  go_wp2_with fail
  refine (inv_any _ a _ ht).mono ?_
  rintro e w2 ⟨rfl, ⟨n1, rfl⟩⟩
  go_wp2_with fail
  refine (div_any _ a b _ (ht.drewN _)).mono ?_
  rintro e w2 ⟨rfl, ⟨n1, rfl⟩⟩
  go_wp2_with fail
  refine (mul_calls _ a b _ (ht.drewN _)).mono ?_
  rintro e w2 ⟨rfl, ⟨n1, rfl⟩⟩
  go_wp2_with fail
  refine (ref_mul a b _).mono ?_
  rintro e w2 ⟨rfl, ⟨n1, rfl⟩⟩
  go_wp2_with fail
  refine (ref_inv a _).mono ?_
  rintro e w2 ⟨rfl, ⟨n1, rfl⟩⟩
  go_wp2_with fail
  refine (mul_calls _ (gm a (gi b)) b _ (ht.drewN _)).mono ?_
  rintro e w2 ⟨rfl, ⟨n1, rfl⟩⟩
  go_wp2_with fail
  go_ret
  exact ⟨rfl, pw_below_drewN (below_then hb0 hb0.size hb1) _⟩
set_option maxHeartbeats 4000000 in
theorem GfMul_nz (a b : UInt8) (w : World) (ha : a ≠ 0) (hb : b = 0) : Calls Try.prog 5 #[.int .u8 (a.toNat : Int), .int .u8 (b.toNat : Int)] w fun e w' => e = .returned (.bool true) ∧ Below w.heap.size w w' := by
  have h1 := b_ne_zero ha
  have h2 := b_zero hb
  obtain ⟨h3, h5⟩ := ez_ne ha
  have h4 := ez_zero hb
  have h7 : (((gm a (gi a)).toNat : Int) == 1) = true := by rw [gm_gi ha]; rfl
  clear ha hb
  go_enter Try.func5, Try.ntmps5
  go_wp2_with fail
  refine (wakes07 _).mono ?_
  rintro e w0 ⟨rfl, hb0⟩
  go_wp2_with fail
  refine (make_calls _).mono ?_
  rintro e w1 ⟨rfl, ht, hs, hb1⟩
  go_wp2_with fail
  refine (inv_any _ a _ ht).mono ?_
  rintro e w2 ⟨rfl, ⟨n1, rfl⟩⟩
  go_wp2_with fail
  refine (div_any _ a b _ (ht.drewN _)).mono ?_
  rintro e w2 ⟨rfl, ⟨n1, rfl⟩⟩
  go_wp2_with fail
  refine (mul_calls _ a b _ (ht.drewN _)).mono ?_
  rintro e w2 ⟨rfl, ⟨n1, rfl⟩⟩
  go_wp2_with fail
  refine (ref_mul a b _).mono ?_
  rintro e w2 ⟨rfl, ⟨n1, rfl⟩⟩
  go_wp2_with fail
  refine (ref_inv a _).mono ?_
  rintro e w2 ⟨rfl, ⟨n1, rfl⟩⟩
  go_wp2_with fail
  refine (mul_calls _ a (gi a) _ (ht.drewN _)).mono ?_
  rintro e w2 ⟨rfl, ⟨n1, rfl⟩⟩
  go_wp2_with fail
  go_ret
  exact ⟨rfl, pw_below_drewN (below_then hb0 hb0.size hb1) _⟩
set_option maxHeartbeats 4000000 in
theorem GfMul_nn (a b : UInt8) (w : World) (ha : a ≠ 0) (hb : b ≠ 0) : Calls Try.prog 5 #[.int .u8 (a.toNat : Int), .int .u8 (b.toNat : Int)] w fun e w' => e = .returned (.bool true) ∧ Below w.heap.size w w' := by
  have h1 := b_ne_zero ha
  have h2 := b_ne_zero hb
  obtain ⟨h3, h5⟩ := ez_ne ha
  obtain ⟨h4, h8⟩ := ez_ne hb
  have h6 := b_eq (show gm (gm a (gi b)) b = a by rw [← gm_assoc, gi_gm hb, gm_one])
  have h7 : (((gm a (gi a)).toNat : Int) == 1) = true := by rw [gm_gi ha]; rfl
  clear ha hb
  go_enter Try.func5, Try.ntmps5
  go_wp2_with fail
  refine (wakes07 _).mono ?_
  rintro e w0 ⟨rfl, hb0⟩
  go_wp2_with fail
  refine (make_calls _).mono ?_
  rintro e w1 ⟨rfl, ht, hs, hb1⟩
  go_wp2_with fail
  refine (inv_any _ a _ ht).mono ?_
  rintro e w2 ⟨rfl, ⟨n1, rfl⟩⟩
  go_wp2_with fail
  refine (div_any _ a b _ (ht.drewN _)).mono ?_
  rintro e w2 ⟨rfl, ⟨n1, rfl⟩⟩
  go_wp2_with fail
  refine (mul_calls _ a b _ (ht.drewN _)).mono ?_
  rintro e w2 ⟨rfl, ⟨n1, rfl⟩⟩
  go_wp2_with fail
  refine (ref_mul a b _).mono ?_
  rintro e w2 ⟨rfl, ⟨n1, rfl⟩⟩
  go_wp2_with fail
  refine (ref_inv a _).mono ?_
  rintro e w2 ⟨rfl, ⟨n1, rfl⟩⟩
  go_wp2_with fail
  refine (mul_calls _ a (gi a) _ (ht.drewN _)).mono ?_
  rintro e w2 ⟨rfl, ⟨n1, rfl⟩⟩
  go_wp2_with fail
  refine (mul_calls _ (gm a (gi b)) b _ (ht.drewN _)).mono ?_
  rintro e w2 ⟨rfl, ⟨n1, rfl⟩⟩
  go_wp2_with fail
  go_ret
  exact ⟨rfl, pw_below_drewN (below_then hb0 hb0.size hb1) _⟩
theorem GfMul_walk (a b : UInt8) (w : World) : Calls Try.prog 5 #[.int .u8 (a.toNat : Int), .int .u8 (b.toNat : Int)] w fun e w' => e = .returned (.bool true) ∧ Below w.heap.size w w' := by
  by_cases ha : a = 0
  · by_cases hb : b = 0
    · exact GfMul_zz a b w ha hb
    · exact GfMul_zn a b w ha hb
  · by_cases hb : b = 0
    · exact GfMul_nz a b w ha hb
    · exact GfMul_nn a b w ha hb
end Go.Proofs.Ytoijjlpkoniipaa
