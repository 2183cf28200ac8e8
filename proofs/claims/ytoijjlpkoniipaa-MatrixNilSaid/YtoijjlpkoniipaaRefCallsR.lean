/- The document's functions of layer 1 and 7 by their contracts, over bytes. -/
import Derived.Test.YtoijjlpkoniipaaRefMulR
import Derived.Test.YtoijjlpkoniipaaRefListR
namespace Go.Proofs.Ytoijjlpkoniipaa
open Go.RowKit Go.Proofs.YtoijjlpkoniipaaW.PrintWords Gf PRsEncode

theorem ref_mul (a b : UInt8) (w : World) : Calls Try.prog 29 #[.int .u8 (a.toNat : Int), .int .u8 (b.toNat : Int)] w fun e w' => e = .returned (.int .u8 ((gm a b).toNat : Int)) ∧ Drawn0 w w' :=
  scriniumref07_Mul.calls 9 _ _ _ w (mul_eq a b 9 (by omega))
theorem ref_inv (a : UInt8) (w : World) : Calls Try.prog 30 #[.int .u8 (a.toNat : Int)] w fun e w' => e = .returned (.int .u8 ((gi a).toNat : Int)) ∧ Drawn0 w w' :=
  scriniumref07_Inv.calls 265 _ _ w (inv_eq a 265 (by omega))
theorem ref_same (A : Option Addr) (xs : List UInt8) (c : Nat) (A' : Option Addr) (ys : List UInt8) (c' : Nat) (w : World) (hr : KB.C w A xs.length (bs xs)) (hc : xs.length ≤ c) (hr' : KB.C w A' ys.length (bs ys)) (hc' : ys.length ≤ c') :
    Calls Try.prog 35 #[.slice A xs.length c, .slice A' ys.length c'] w fun e w' => e = .returned (.bool (decide (xs = ys))) ∧ Drawn0 w w' := by
  have h := scriniumref01_Same.calls (xs.length + 1) A c (bs xs) A' c' (bs ys) _ w (by rw [bs_length]; exact hr) (by rw [bs_length]; exact hc) (by rw [bs_length]; exact hr') (by rw [bs_length]; exact hc') (same_eq xs ys hr.2.1 _ (by omega))
  rwa [bs_length, bs_length] at h
theorem ref_sameall (n : Nat) (A : Option Addr) (xs : List (List UInt8)) (c : Nat) (A' : Option Addr) (ys : List (List UInt8)) (c' : Nat) (w : World) (hr : KBB.C w A xs.length (bss xs)) (hc : xs.length ≤ c) (hr' : KBB.C w A' ys.length (bss ys)) (hc' : ys.length ≤ c')
    (hx : Rowsle xs n) (hn : n ≤ 9223372036854775807) :
    Calls Try.prog 36 #[.slice A xs.length c, .slice A' ys.length c'] w fun e w' => e = .returned (.bool (decide (xs = ys))) ∧ Drawn0 w w' := by
  have h := scriniumref07_SameAll.calls (xs.length + n + 2) A c (bss xs) A' c' (bss ys) _ w (by rw [bss_length]; exact hr) (by rw [bss_length]; exact hc) (by rw [bss_length]; exact hr') (by rw [bss_length]; exact hc') (sameall_eq xs ys hr.2.1 n hx hn _ (by omega))
  rwa [bss_length, bss_length] at h
theorem ref_long (A : Option Addr) (xs : List (List UInt8)) (c many long : Nat) (w : World) (hr : KBB.C w A xs.length (bss xs)) (hc : xs.length ≤ c) :
    Calls Try.prog 31 #[.slice A xs.length c, .int .i64 (many : Int), .int .i64 (long : Int)] w fun e w' => e = .returned (.bool (isLong xs many long)) ∧ Drawn0 w w' := by
  have h := scriniumref07_Long.calls (xs.length + 1) A c (bss xs) many long _ w (by rw [bss_length]; exact hr) (by rw [bss_length]; exact hc) (long_eq xs hr.2.1 many long _ (by omega))
  rwa [bss_length] at h
theorem C_of_S {w : World} {e base : Nat} {ok : Nat → Prop} {v : Value} {xs : List (List UInt8)} (h : Kd.S KBB e w base ok v (bss xs)) : ∃ A c, v = .slice A xs.length c ∧ xs.length ≤ c ∧ KBB.C w A xs.length (bss xs) := by
  obtain ⟨A, c, hv, hc, hr⟩ := Kd.R_reads (Kd.S_R h)
  rw [bss_length] at hv hc hr
  exact ⟨A, c, hv, hc, hr⟩
theorem C_of_R {w : World} {e base : Nat} {ok : Nat → Prop} {v : Value} {xs : List UInt8} (h : Kd.R KB e w base ok v (bs xs)) : ∃ A c, v = .slice A xs.length c ∧ xs.length ≤ c ∧ KB.C w A xs.length (bs xs) := by
  obtain ⟨A, c, hv, hc, hr⟩ := Kd.R_reads h
  rw [bs_length] at hv hc hr
  exact ⟨A, c, hv, hc, hr⟩
theorem ref_copy (A : Option Addr) (xs : List (List UInt8)) (c : Nat) (w : World) (hr : KBB.C w A xs.length (bss xs)) (hc : xs.length ≤ c) (hn : xs.length ≤ 1000) (hl : ∀ r ∈ xs, r.length ≤ 1000) :
    Calls Try.prog 32 #[.slice A xs.length c] w fun e w' => ∃ A' c', e = .returned (.slice A' xs.length c') ∧ xs.length ≤ c' ∧ KBB.C w' A' xs.length (bss xs) ∧ Below w.heap.size w w' := by
  have h := scriniumref07_CopyAll.calls (xs.length + 1) A c (bss xs) _ w (by rw [bss_length]; exact hr) (by rw [bss_length]; exact hc) (copy_eq xs (by omega) (fun r h => by have := hl r h; omega) _ (by omega))
  rw [bss_length] at h
  refine h.mono ?_
  rintro e w' ⟨v, rfl, hs, hb⟩
  obtain ⟨A', c', rfl, h1, h2⟩ := C_of_S hs
  exact ⟨A', c', rfl, h1, h2, hb⟩
end Go.Proofs.Ytoijjlpkoniipaa
