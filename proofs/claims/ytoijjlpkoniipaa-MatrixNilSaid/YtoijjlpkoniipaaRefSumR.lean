/- What the document's Sum comes to, over bytes (over the print's plain functions of this set). Plain; lengths below a bound that the statements give. -/
import Derived.Test.YtoijjlpkoniipaaRefMulR
import Derived.Test.YtoijjlpkoniipaaRefListR
import Derived.Test.YtoijjlpkoniipaaSumBad
namespace Go.Proofs.Ytoijjlpkoniipaa.PRsEncode
open Go.RowKit Go.Proofs.YtoijjlpkoniipaaW.PrintWords Gf Lin

theorem rd_gb {l : List UInt8} {i : Nat} (h : i < l.length) : rd (bs l) (i : Int) = ((gb l i).toNat : Int) := by rw [rd_bs h, gb_at h]
theorem rdL_gr {m : List (List UInt8)} {i : Nat} (h : i < m.length) : rd_L1 (bss m) (i : Int) = bs (gr m i) := by rw [rdL_bss h, gr_at h]
theorem gr_zero {m : List (List UInt8)} : gr m 0 = m.headD [] := by cases m <;> rfl
theorem alike_len {m : List (List UInt8)} (ha : Alike m) {i : Nat} (h : i < m.length) : (gr m i).length = (m.headD []).length := by rw [gr_at h]; exact ha _ (List.getElem_mem _)

theorem sum_l2_step (cs : List UInt8) (m : List (List UInt8)) (out : List Int) (j i : Nat) (b : UInt8) (hil : i < m.length) (hl : cs.length = m.length) (L : Nat) (hrow : (gr m i).length = L) (hj : j < L) (hm : m.length ≤ 1000) (k : Nat) (hk : 9 ≤ k) :
    scriniumref07_Sum.l2 (k + 1) (bs cs) (bss m) out (j : Int) ((b).toNat : Int) (i : Int) = scriniumref07_Sum.l2 k (bs cs) (bss m) out (j : Int) (((ga b (gm (gb cs i) (gb (gr m i) j)))).toNat : Int) ((i + 1 : Nat) : Int) := by
  conv => lhs; unfold scriniumref07_Sum.l2
  rw [bss_length, bs_length, if_pos (by omega), if_pos (by omega), if_pos (by omega), if_pos (by omega), rdL_gr hil, bs_length, if_pos (by omega)]
  rw [rd_gb (by omega), rd_gb (by omega)]
  rw [mul_eq _ _ _ (by omega)]
  simp only [Option.bind_some]
  rw [u8_xor_all, w64 hil (by omega)]
theorem sum_l2_end (cs : List UInt8) (m : List (List UInt8)) (out : List Int) (j : Nat) (b : UInt8) (h : out.length < 140737488355328) (k : Nat) : scriniumref07_Sum.l2 (k + 1) (bs cs) (bss m) out (j : Int) ((b).toNat : Int) (m.length : Int) =
      scriniumref07_Sum.l1 k (bs cs) (bss m) (out ++ [((b).toNat : Int)]) (wrap64 ((j : Int) + 1)) := by
  conv => lhs; unfold scriniumref07_Sum.l2
  rw [bss_length, if_neg (by omega), if_pos h]
theorem sum_l2 (cs : List UInt8) (m : List (List UInt8)) (hl : cs.length = m.length) (ha : Alike m) (hm : m.length ≤ 1000) (out : List Int) (ho : out.length < 140737488355328) (j : Nat) (hj : j < (m.headD []).length) (d : Nat) :
    ∀ i : Nat, m.length - i = d → i ≤ m.length → ∀ k, 9 ≤ k → scriniumref07_Sum.l2 (k + d + 1) (bs cs) (bss m) out (j : Int) ((sumAt cs m i j).toNat : Int) (i : Int) =
      scriniumref07_Sum.l1 k (bs cs) (bss m) (out ++ [((sumAt cs m m.length j).toNat : Int)]) (wrap64 ((j : Int) + 1)) := by
  induction d with
  | zero =>
    intro i hd hi k hk
    have : i = m.length := by omega
    subst this
    exact sum_l2_end cs m out j _ ho k
  | succ d ih =>
    intro i hd hi k hk
    have hil : i < m.length := by omega
    have e := sum_l2_step cs m out j i (sumAt cs m i j) hil hl _ (alike_len ha hil) hj hm (k + (d + 1)) (by omega)
    rw [e, ← sumAt_succ]
    exact ih (i + 1) (by omega) (by omega) k hk
theorem sum_l1 (cs : List UInt8) (m : List (List UInt8)) (hl : cs.length = m.length) (ha : Alike m) (hm : m.length ≤ 1000) (hL : (m.headD []).length ≤ 1000000) (d : Nat) :
    ∀ j : Nat, (m.headD []).length - j = d → j ≤ (m.headD []).length → ∀ k, 9 ≤ k → scriniumref07_Sum.l1 (k + d * (m.length + 3) + 2) (bs cs) (bss m) (bs ((List.range j).map (sumAt cs m m.length))) (j : Int) = some (bs (sumB cs m), 0) := by
  induction d with
  | zero =>
    intro j hd hj k hk
    have : j = (m.headD []).length := by omega
    subst this
    rw [Nat.zero_mul, Nat.add_zero]
    simp only [scriniumref07_Sum.l1, scriniumref07_Sum.j2, bss_length]
    by_cases h0 : 0 < m.length
    · have e0 : rd_L1 (bss m) 0 = bs (m.headD []) := by have := rdL_gr (m := m) h0; rw [gr_zero] at this; exact this
      rw [if_pos (by omega), if_pos (by omega), e0, bs_length]
      simp [sumB]
    · rw [if_neg (by omega)]
      simp [sumB]
  | succ d ih =>
    intro j hd hj k hk
    have h0 : 0 < m.length := by
      cases m with
      | nil => simp at hd
      | cons r t => simp
    have e0 : rd_L1 (bss m) 0 = bs (m.headD []) := by have := rdL_gr (m := m) h0; rw [gr_zero] at this; exact this
    have hk2 : k + (d + 1) * (m.length + 3) + 2 = ((k + d * (m.length + 3) + 2) + m.length + 1) + 1 + 1 := by rw [Nat.add_mul, Nat.one_mul]; omega
    rw [hk2]
    conv => lhs; unfold scriniumref07_Sum.l1
    rw [bss_length, if_pos (by omega), if_pos (by omega), e0, bs_length]
    conv => lhs; unfold scriniumref07_Sum.j2
    rw [if_pos (decide_eq_true (by omega))]
    have e2 := sum_l2 cs m hl ha hm (bs ((List.range j).map (sumAt cs m m.length))) (by simp; omega) j (by omega) m.length 0 (by omega) (by omega) (k + d * (m.length + 3) + 2) (by omega)
    rw [show sumAt cs m 0 j = 0 from rfl] at e2
    rw [show ((0 : UInt8).toNat : Int) = 0 from rfl] at e2
    rw [show ((0 : Nat) : Int) = 0 from rfl] at e2
    rw [e2, show wrap64 ((j : Int) + 1) = ((j + 1 : Nat) : Int) by unfold wrap64; omega]
    have e3 : bs ((List.range j).map (sumAt cs m m.length)) ++ [((sumAt cs m m.length j).toNat : Int)] = bs ((List.range (j + 1)).map (sumAt cs m m.length)) := by
      rw [List.range_succ, List.map_append]; unfold bs; rw [List.map_append]; rfl
    rw [e3]
    exact ih (j + 1) (by omega) (by omega) k hk
theorem sum_l0 (cs : List UInt8) (m : List (List UInt8)) (ha : Alike m) (hm : m.length ≤ 1000) (d : Nat) :
    ∀ i : Nat, m.length - i = d → i ≤ m.length → ∀ k, scriniumref07_Sum.l0 (k + d + 1) (bs cs) (bss m) (i : Int) = scriniumref07_Sum.l1 k (bs cs) (bss m) [] 0 := by
  induction d with
  | zero =>
    intro i hd hi k
    simp only [scriniumref07_Sum.l0, bss_length]
    rw [if_neg (by omega)]
  | succ d ih =>
    intro i hd hi k
    have hil : i < m.length := by omega
    have e0 : rd_L1 (bss m) 0 = bs (m.headD []) := by have := rdL_gr (m := m) (i := 0) (by omega); rw [gr_zero] at this; exact this
    rw [show k + (d + 1) + 1 = (k + d + 1) + 1 from rfl]
    conv => lhs; unfold scriniumref07_Sum.l0
    rw [bss_length, if_pos (by omega), if_pos (by omega), if_pos (by omega), rdL_gr hil, e0, bs_length, bs_length, if_pos (by rw [alike_len ha hil]), w64 hil (by omega)]
    exact ih (i + 1) (by omega) (by omega) k
theorem sum_l0_bad (cs : List UInt8) (m : List (List UInt8)) (hm : m.length ≤ 1000) (b : Nat) (hbm : b < m.length) (hrows : ∀ i, i < b → (gr m i).length = (gr m 0).length) (hbad : (gr m b).length ≠ (gr m 0).length) (d : Nat) :
    ∀ i : Nat, b - i = d → i ≤ b → ∀ k, d < k → scriniumref07_Sum.l0 k (bs cs) (bss m) (i : Int) = some ([], 14) := by
  induction d with
  | zero =>
    intro i hd hi k hk
    obtain ⟨k, rfl⟩ : ∃ j, k = j + 1 := ⟨k - 1, by omega⟩
    have : i = b := by omega
    subst this
    have e0 : rd_L1 (bss m) 0 = bs (gr m 0) := rdL_gr (m := m) (i := 0) (by omega)
    conv => lhs; unfold scriniumref07_Sum.l0
    rw [bss_length, if_pos (by omega), if_pos (by omega), if_pos (by omega), rdL_gr hbm, e0, bs_length, bs_length, if_neg (by omega)]
  | succ d ih =>
    intro i hd hi k hk
    obtain ⟨k, rfl⟩ : ∃ j, k = j + 1 := ⟨k - 1, by omega⟩
    have hil : i < m.length := by omega
    have e0 : rd_L1 (bss m) 0 = bs (gr m 0) := rdL_gr (m := m) (i := 0) (by omega)
    conv => lhs; unfold scriniumref07_Sum.l0
    rw [bss_length, if_pos (by omega), if_pos (by omega), if_pos (by omega), rdL_gr hil, e0, bs_length, bs_length, if_pos (by rw [hrows i (by omega)]), w64 hil (by omega)]
    exact ih (i + 1) (by omega) (by omega) k (by omega)
/-- How many rounds a sum takes. -/
def sumK (m : List (List UInt8)) : Nat := 12 + (m.headD []).length * (m.length + 3) + m.length
theorem sum_eq (cs : List UInt8) (m : List (List UInt8)) (hl : cs.length = m.length) (ha : Alike m) (hm : m.length ≤ 1000) (hL : (m.headD []).length ≤ 1000000) (k : Nat) (hk : sumK m ≤ k) :
    scriniumref07_Sum.f k (bs cs) (bss m) = some (bs (sumB cs m), 0) := by
  refine at_rounds (scriniumref07_Sum.mono (bs cs) (bss m)) hk ?_
  unfold scriniumref07_Sum.f sumK
  rw [bs_length, bss_length, if_pos (by omega)]
  have e := sum_l0 cs m ha hm m.length 0 (by omega) (by omega) (9 + (m.headD []).length * (m.length + 3) + 2)
  rw [show 12 + (m.headD []).length * (m.length + 3) + m.length = 9 + (m.headD []).length * (m.length + 3) + 2 + m.length + 1 by omega]
  rw [show (0 : Int) = ((0 : Nat) : Int) from rfl, e]
  exact sum_l1 cs m hl ha hm hL (m.headD []).length 0 (by omega) (by omega) 9 (by omega)
theorem sum_eq_len (cs : List UInt8) (m : List (List UInt8)) (hl : cs.length ≠ m.length) (k : Nat) : scriniumref07_Sum.f k (bs cs) (bss m) = some ([], 14) := by
  unfold scriniumref07_Sum.f
  rw [bs_length, bss_length, if_neg (by omega)]
theorem sum_eq_bad (cs : List UInt8) (m : List (List UInt8)) (hm : m.length ≤ 1000) (ha : ¬ Alike m) (k : Nat) (hk : m.length < k) : scriniumref07_Sum.f k (bs cs) (bss m) = some ([], 14) := by
  unfold scriniumref07_Sum.f
  rw [bs_length, bss_length]
  by_cases hl : cs.length = m.length
  · rw [if_pos (by omega)]
    obtain ⟨b, hb0, hbm, h1, h2⟩ := not_alike ha
    exact sum_l0_bad cs m hm b hbm h1 h2 b 0 (by omega) (by omega) k (by omega)
  · rw [if_neg (by omega)]
end Go.Proofs.Ytoijjlpkoniipaa.PRsEncode
