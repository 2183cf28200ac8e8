/- Joined out of texts of this claim: RefMulI0, RefListI0. Each says what it proves, and its conditions. -/
import Derived.Test.YtoijjlpkoniipaaBase
import Derived.Test.YtoijjlpkoniipaaPMatrixInversex
set_option linter.unusedVariables false
set_option linter.unusedSimpArgs false
section
/- What the document's Mul and Inv come to: the field's product and inverse (over the print's plain functions of this set). Plain, no condition. -/
namespace Go.Proofs.Ytoijjlpkoniipaa.PMatrixInverse
open Go.RowKit Go.Proofs.YtoijjlpkoniipaaW.PrintWords Gf

theorem halves_all : ∀ n : Fin 256, UInt8.ofNat n.val = (if n.val % 2 = 1 then 1 else 0) ^^^ Gf.step (UInt8.ofNat (n.val / 2)) := by decide +kernel
theorem halves (n : UInt8) : n = (if n.toNat % 2 = 1 then 1 else 0) ^^^ Gf.step (UInt8.ofNat (n.toNat / 2)) := by
  have := halves_all ⟨n.toNat, n.toNat_lt⟩
  rwa [ofNat_toNat] at this
theorem gm_halves (x n : UInt8) : gm x n = (if n.toNat % 2 = 1 then x else 0) ^^^ gm (Gf.step x) (UInt8.ofNat (n.toNat / 2)) := by
  conv => lhs; rw [halves n]
  rw [gm_xor, ← gm_two (UInt8.ofNat _), gm_comm (UInt8.ofNat _) 2, gm_assoc, gm_two]
  congr 1
  split
  · exact gm_one x
  · exact gm_zero_right x
theorem ofNat_lt {n : Nat} (h : n < 256) : (UInt8.ofNat n).toNat = n := UInt8.toNat_ofNat_of_lt' h

theorem mul_loop (m : Nat) : ∀ (x n out : UInt8), n.toNat < 2 ^ m → ∀ k, m < k → scriniumref07_Mul.l0 k (x.toNat : Int) (n.toNat : Int) (out.toNat : Int) = some (((out ^^^ gm x n).toNat : Nat) : Int) := by
  induction m with
  | zero =>
    intro x n out hn k hk
    obtain ⟨k, rfl⟩ : ∃ j, k = j + 1 := ⟨k - 1, by omega⟩
    have h0 : n = 0 := UInt8.toNat_inj.1 (by simpa using hn)
    subst h0
    have ho := out.toNat_lt
    simp only [scriniumref07_Mul.l0]
    rw [if_neg (by simp), gm_zero_right, UInt8.xor_zero]
    congr 1
    omega
  | succ m ih =>
    intro x n out hn k hk
    obtain ⟨k, rfl⟩ : ∃ j, k = j + 1 := ⟨k - 1, by omega⟩
    have hx := x.toNat_lt
    have hn' := n.toNat_lt
    have ho := out.toNat_lt
    by_cases h0 : n.toNat = 0
    · have h0' : n = 0 := UInt8.toNat_inj.1 (by simpa using h0)
      subst h0'
      simp only [scriniumref07_Mul.l0]
      rw [if_neg (by simp), gm_zero_right, UInt8.xor_zero]
      congr 1
      omega
    · have hstep : (if wrap64 (2 * (x.toNat : Int)) > 255 then Go.bits .xor .i64 (wrap64 (2 * (x.toNat : Int))) 285 else wrap64 (2 * (x.toNat : Int))) = ((Gf.step x).toNat : Int) := by
        have hw : wrap64 (2 * (x.toNat : Int)) = ((x.toNat * 2 : Nat) : Int) := by unfold wrap64; omega
        rw [hw]
        by_cases hc : x.toNat * 2 / 256 = 0
        · rw [if_neg (by omega), step_low hc]
        · rw [if_pos (by omega), step_high hc]
          exact i64_xor_nat _ 285 (by omega) (by omega)
      have hhalf : wrap64 (Int.tdiv (n.toNat : Int) 2) = ((UInt8.ofNat (n.toNat / 2)).toNat : Int) := by
        rw [ofNat_lt (by omega), Int.tdiv_eq_ediv_of_nonneg (by omega)]; unfold wrap64; omega
      have hodd : Int.tmod (n.toNat : Int) 2 = ((n.toNat % 2 : Nat) : Int) := by rw [Int.tmod_eq_emod_of_nonneg (by omega)]; omega
      have hxor : Go.bits .xor .i64 (out.toNat : Int) (x.toNat : Int) = ((out ^^^ x).toNat : Int) := by
        rw [UInt8.toNat_xor]; exact i64_xor_nat _ _ (by omega) (by omega)
      have hlt : (UInt8.ofNat (n.toNat / 2)).toNat < 2 ^ m := by rw [ofNat_lt (by omega)]; rw [Nat.pow_succ] at hn; omega
      simp only [scriniumref07_Mul.l0]
      rw [if_pos (by omega), hodd, hhalf, hxor, gm_halves x n]
      by_cases ho2 : n.toNat % 2 = 1
      · rw [if_pos (by omega), if_pos ho2]
        have e := ih (Gf.step x) (UInt8.ofNat (n.toNat / 2)) (out ^^^ x) hlt k (by omega)
        rw [UInt8.xor_assoc] at e
        rw [← e, ← hstep]
        split <;> rfl
      · rw [if_neg (by omega), if_neg ho2]
        have e := ih (Gf.step x) (UInt8.ofNat (n.toNat / 2)) out hlt k (by omega)
        rw [UInt8.zero_xor]
        rw [← e, ← hstep]
        split <;> rfl
theorem mul_eq (x n : UInt8) (k : Nat) (hk : 8 < k) : scriniumref07_Mul.f k (x.toNat : Int) (n.toNat : Int) = some ((gm x n).toNat : Int) := by
  have hx := x.toNat_lt
  have hn := n.toNat_lt
  have h1 : wrap64 (x.toNat : Int) = (x.toNat : Int) := by unfold wrap64; omega
  have h2 : wrap64 (n.toNat : Int) = (n.toNat : Int) := by unfold wrap64; omega
  have := mul_loop 8 x n 0 (by omega) k hk
  unfold scriniumref07_Mul.f
  rw [h1, h2]
  simpa using this
theorem inv_loop (x : UInt8) (d : Nat) : ∀ b : Nat, 256 - b = d → 1 ≤ b → b ≤ 256 → (∀ y : UInt8, 1 ≤ y.toNat → y.toNat < b → gm x y ≠ 1) → ∀ k, d + 9 < k → scriniumref07_Inv.l0 k (x.toNat : Int) (b : Int) = some ((gi x).toNat : Int) := by
  induction d with
  | zero =>
    intro b hd h1 hb hno k hk
    obtain ⟨k, rfl⟩ : ∃ j, k = j + 1 := ⟨k - 1, by omega⟩
    simp only [scriniumref07_Inv.l0]
    rw [if_neg (by omega)]
    by_cases hx : x = 0
    · subst hx; rfl
    · exfalso
      have h2 := (gi x).toNat_lt
      have h3 : (gi x).toNat ≠ 0 := fun e => gi_ne_zero hx (UInt8.toNat_inj.1 (by simpa using e))
      exact hno (gi x) (by omega) (by omega) (gm_gi hx)
  | succ d ih =>
    intro b hd h1 hb hno k hk
    obtain ⟨k, rfl⟩ : ∃ j, k = j + 1 := ⟨k - 1, by omega⟩
    have hy : (UInt8.ofNat b).toNat = b := ofNat_lt (by omega)
    have hm := mul_eq x (UInt8.ofNat b) k (by omega)
    rw [hy] at hm
    have hmod : ((b : Int) % 256) = (b : Int) := by omega
    simp only [scriniumref07_Inv.l0]
    rw [if_pos (by omega), hmod, hm]
    simp only [Option.bind_some]
    by_cases hg : gm x (UInt8.ofNat b) = 1
    · rw [if_pos (by rw [hg]; rfl), ← gi_unique hg, hy]
    · have hne : ((gm x (UInt8.ofNat b)).toNat : Int) ≠ 1 := fun e => hg (UInt8.toNat_inj.1 (Int.ofNat.inj e))
      rw [if_neg hne]
      have hw : wrap64 ((b : Int) + 1) = ((b + 1 : Nat) : Int) := by unfold wrap64; omega
      rw [hw]
      refine ih (b + 1) (by omega) (by omega) (by omega) (fun y h4 h5 => ?_) k (by omega)
      by_cases hyb : y.toNat = b
      · have : y = UInt8.ofNat b := UInt8.toNat_inj.1 (by rw [hy, hyb])
        rw [this]; exact hg
      · exact hno y h4 (by omega)
theorem inv_eq (x : UInt8) (k : Nat) (hk : 264 < k) : scriniumref07_Inv.f k (x.toNat : Int) = some ((gi x).toNat : Int) :=
  inv_loop x 255 1 rfl (by omega) (by omega) (fun y h1 h2 => by omega) k (by omega)
end Go.Proofs.Ytoijjlpkoniipaa.PMatrixInverse
end
section
/- What the document's Same, SameAll, CopyAll and Long come to, over bytes (over the print's plain functions of this set). Plain; lengths below a bound that the statements give. -/
namespace Go.Proofs.Ytoijjlpkoniipaa.PMatrixInverse
open Go.RowKit Go.Proofs.YtoijjlpkoniipaaW.PrintWords Gf

theorem rd_bs {l : List UInt8} {i : Nat} (h : i < l.length) : rd (bs l) (i : Int) = ((l[i]).toNat : Int) := by
  unfold rd bs
  simp [h]
theorem rdL_bss {m : List (List UInt8)} {i : Nat} (h : i < m.length) : rd_L1 (bss m) (i : Int) = bs m[i] := by
  unfold rd_L1 bss
  simp [h]
theorem w64 {i n : Nat} (h : i < n) (hn : n ≤ 9223372036854775807) : wrap64 ((i : Int) + 1) = ((i + 1 : Nat) : Int) := by unfold wrap64; omega

theorem copy_loop (m : List (List UInt8)) (hn : m.length ≤ 5864062014804) (hr : ∀ r ∈ m, r.length < 140737488355328) (d : Nat) :
    ∀ i : Nat, m.length - i = d → i ≤ m.length → ∀ k, d < k → scriniumref07_CopyAll.l0 k (bss m) (bss (m.take i)) (i : Int) = some (bss m) := by
  induction d with
  | zero =>
    intro i hd hi k hk
    obtain ⟨k, rfl⟩ : ∃ j, k = j + 1 := ⟨k - 1, by omega⟩
    simp only [scriniumref07_CopyAll.l0, bss_length]
    rw [if_neg (by omega), List.take_of_length_le (by omega)]
  | succ d ih =>
    intro i hd hi k hk
    obtain ⟨k, rfl⟩ : ∃ j, k = j + 1 := ⟨k - 1, by omega⟩
    have hri := hr m[i] (List.getElem_mem _)
    simp only [scriniumref07_CopyAll.l0, bss_length]
    rw [if_pos (by omega), if_pos (by omega), rdL_bss (by omega : i < m.length), bs_length, if_pos (by simp; omega), if_pos (by rw [List.length_take]; omega), w64 (by omega : i < m.length) (by omega)]
    have e : bss (m.take i) ++ [([] : List Int) ++ bs m[i]] = bss (m.take (i + 1)) := by
      rw [List.take_succ_eq_append_getElem (by omega)]
      unfold bss
      rw [List.map_append]; rfl
    rw [e]
    exact ih (i + 1) (by omega) (by omega) k (by omega)
theorem copy_eq (m : List (List UInt8)) (hn : m.length ≤ 5864062014804) (hr : ∀ r ∈ m, r.length < 140737488355328) (k : Nat) (hk : m.length < k) : scriniumref07_CopyAll.f k (bss m) = some (bss m) := by
  unfold scriniumref07_CopyAll.f
  have := copy_loop m hn hr m.length 0 (by omega) (by omega) k hk
  simpa [bss] using this
end Go.Proofs.Ytoijjlpkoniipaa.PMatrixInverse
end
