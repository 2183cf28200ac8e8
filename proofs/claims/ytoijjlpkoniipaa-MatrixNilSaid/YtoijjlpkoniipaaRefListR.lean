/- What the document's Same, SameAll, CopyAll and Long come to, over bytes (over the print's plain functions of this set). Plain; lengths below a bound that the statements give. -/
import Derived.Test.YtoijjlpkoniipaaMem
import Derived.Test.YtoijjlpkoniipaaPRsEncodex
namespace Go.Proofs.Ytoijjlpkoniipaa.PRsEncode
open Go.RowKit Go.Proofs.YtoijjlpkoniipaaW.PrintWords Gf

theorem rd_bs {l : List UInt8} {i : Nat} (h : i < l.length) : rd (bs l) (i : Int) = ((l[i]).toNat : Int) := by
  unfold rd bs
  simp [h]
theorem rdL_bss {m : List (List UInt8)} {i : Nat} (h : i < m.length) : rd_L1 (bss m) (i : Int) = bs m[i] := by
  unfold rd_L1 bss
  simp [h]
theorem w64 {i n : Nat} (h : i < n) (hn : n ≤ 9223372036854775807) : wrap64 ((i : Int) + 1) = ((i + 1 : Nat) : Int) := by unfold wrap64; omega

theorem same_loop (a b : List UInt8) (hl : a.length = b.length) (hn : a.length ≤ 9223372036854775807) (d : Nat) :
    ∀ i : Nat, a.length - i = d → i ≤ a.length → ∀ k, d < k → scriniumref01_Same.l0 k (bs a) (bs b) (i : Int) = some (decide (a.drop i = b.drop i)) := by
  induction d with
  | zero =>
    intro i hd hi k hk
    obtain ⟨k, rfl⟩ : ∃ j, k = j + 1 := ⟨k - 1, by omega⟩
    simp only [scriniumref01_Same.l0, bs_length]
    rw [if_neg (by omega), List.drop_eq_nil_of_le (by omega), List.drop_eq_nil_of_le (by omega)]
    simp
  | succ d ih =>
    intro i hd hi k hk
    obtain ⟨k, rfl⟩ : ∃ j, k = j + 1 := ⟨k - 1, by omega⟩
    simp only [scriniumref01_Same.l0, bs_length]
    rw [if_pos (by omega), if_pos (by omega), if_pos (by omega), rd_bs (by omega : i < a.length), rd_bs (by omega : i < b.length), w64 (by omega : i < a.length) hn]
    have e1 : a.drop i = a[i] :: a.drop (i + 1) := List.drop_eq_getElem_cons (by omega)
    have e2 : b.drop i = b[i] :: b.drop (i + 1) := List.drop_eq_getElem_cons (by omega)
    by_cases he : a[i] = b[i]
    · rw [if_pos (by rw [he]), ih (i + 1) (by omega) (by omega) k (by omega), e1, e2, he]
      simp only [List.cons.injEq, true_and]
    · have hne : ¬ ((a[i].toNat : Int) = (b[i].toNat : Int)) := fun e => he (UInt8.toNat_inj.1 (Int.ofNat.inj e))
      rw [if_neg hne, e1, e2]
      simp only [List.cons.injEq, he, false_and, decide_false]
theorem same_eq (a b : List UInt8) (hn : a.length ≤ 9223372036854775807) (k : Nat) (hk : a.length < k) : scriniumref01_Same.f k (bs a) (bs b) = some (decide (a = b)) := by
  unfold scriniumref01_Same.f
  rw [bs_length, bs_length]
  by_cases hl : a.length = b.length
  · rw [if_pos (by omega)]
    have := same_loop a b hl hn a.length 0 (by omega) (by omega) k hk
    simpa using this
  · rw [if_neg (by omega)]
    have : a ≠ b := fun e => hl (by rw [e])
    simp [this]
/-- Rows are below a length. -/
def Rowsle (m : List (List UInt8)) (n : Nat) : Prop := ∀ r ∈ m, r.length ≤ n
theorem sameall_loop (a b : List (List UInt8)) (hl : a.length = b.length) (hn : a.length ≤ 9223372036854775807) (n : Nat) (ha : Rowsle a n) (hn' : n ≤ 9223372036854775807) (d : Nat) :
    ∀ i : Nat, a.length - i = d → i ≤ a.length → ∀ k, d + n + 1 < k → scriniumref07_SameAll.l0 k (bss a) (bss b) (i : Int) = some (decide (a.drop i = b.drop i)) := by
  induction d with
  | zero =>
    intro i hd hi k hk
    obtain ⟨k, rfl⟩ : ∃ j, k = j + 1 := ⟨k - 1, by omega⟩
    simp only [scriniumref07_SameAll.l0, bss_length]
    rw [if_neg (by omega), List.drop_eq_nil_of_le (by omega), List.drop_eq_nil_of_le (by omega)]
    simp
  | succ d ih =>
    intro i hd hi k hk
    obtain ⟨k, rfl⟩ : ∃ j, k = j + 1 := ⟨k - 1, by omega⟩
    simp only [scriniumref07_SameAll.l0, bss_length]
    have hai := ha a[i] (List.getElem_mem _)
    rw [if_pos (by omega), if_pos (by omega), if_pos (by omega), rdL_bss (by omega : i < a.length), rdL_bss (by omega : i < b.length), w64 (by omega : i < a.length) hn,
      same_eq _ _ (by omega) k (by omega)]
    simp only [Option.bind_some]
    have e1 : a.drop i = a[i] :: a.drop (i + 1) := List.drop_eq_getElem_cons (by omega)
    have e2 : b.drop i = b[i] :: b.drop (i + 1) := List.drop_eq_getElem_cons (by omega)
    by_cases he : a[i] = b[i]
    · rw [if_pos (by simp [he]), ih (i + 1) (by omega) (by omega) k (by omega), e1, e2, he]
      simp only [List.cons.injEq, true_and]
    · rw [if_neg (by simp [he]), e1, e2]
      simp only [List.cons.injEq, he, false_and, decide_false]
theorem sameall_eq (a b : List (List UInt8)) (hn : a.length ≤ 9223372036854775807) (n : Nat) (ha : Rowsle a n) (hn' : n ≤ 9223372036854775807) (k : Nat) (hk : a.length + n + 1 < k) :
    scriniumref07_SameAll.f k (bss a) (bss b) = some (decide (a = b)) := by
  unfold scriniumref07_SameAll.f
  rw [bss_length, bss_length]
  by_cases hl : a.length = b.length
  · rw [if_pos (by omega)]
    have := sameall_loop a b hl hn n ha hn' a.length 0 (by omega) (by omega) k hk
    simpa using this
  · rw [if_neg (by omega)]
    have : a ≠ b := fun e => hl (by rw [e])
    simp [this]
theorem copy_loop (m : List (List UInt8)) (hn : m.length ≤ 5864062014804) (hr : ∀ r ∈ m, r.length < 140737488355328) (d : Nat) :
    ∀ i : Nat, m.length - i = d → i ≤ m.length → ∀ k, d < k → scriniumref07_CopyAll.l0 k (bss m) (bss (m.take i)) (i : Int) = some (bss m) := by
  induction d with
  | zero =>
    intro i hd hi k hk
    obtain ⟨k, rfl⟩ : ∃ j, k = j + 1 := ⟨k - 1, by omega⟩
    simp only [scriniumref07_CopyAll.l0, bss_length]
    rw [if_neg (by omega), List.take_of_length_le (by omega)]
  | succ d ih =>
    intro i hd hi k hk
    obtain ⟨k, rfl⟩ : ∃ j, k = j + 1 := ⟨k - 1, by omega⟩
    have hri := hr m[i] (List.getElem_mem _)
    simp only [scriniumref07_CopyAll.l0, bss_length]
    rw [if_pos (by omega), if_pos (by omega), rdL_bss (by omega : i < m.length), bs_length, if_pos (by simp; omega), if_pos (by rw [List.length_take]; omega), w64 (by omega : i < m.length) (by omega)]
    have e : bss (m.take i) ++ [([] : List Int) ++ bs m[i]] = bss (m.take (i + 1)) := by
      rw [List.take_succ_eq_append_getElem (by omega)]
      unfold bss
      rw [List.map_append]; rfl
    rw [e]
    exact ih (i + 1) (by omega) (by omega) k (by omega)
theorem copy_eq (m : List (List UInt8)) (hn : m.length ≤ 5864062014804) (hr : ∀ r ∈ m, r.length < 140737488355328) (k : Nat) (hk : m.length < k) : scriniumref07_CopyAll.f k (bss m) = some (bss m) := by
  unfold scriniumref07_CopyAll.f
  have := copy_loop m hn hr m.length 0 (by omega) (by omega) k hk
  simpa [bss] using this
/-- More texts, or longer ones? -/
def isLong (m : List (List UInt8)) (many long : Nat) : Bool := decide (many < m.length) || m.any (fun r => decide (long < r.length))
theorem long_loop (m : List (List UInt8)) (hn : m.length ≤ 9223372036854775807) (long : Nat) (d : Nat) :
    ∀ i : Nat, m.length - i = d → i ≤ m.length → ∀ k, d < k → scriniumref07_Long.l0 k (bss m) (long : Int) (i : Int) = some ((m.drop i).any (fun r => decide (long < r.length))) := by
  induction d with
  | zero =>
    intro i hd hi k hk
    obtain ⟨k, rfl⟩ : ∃ j, k = j + 1 := ⟨k - 1, by omega⟩
    simp only [scriniumref07_Long.l0, bss_length]
    rw [if_neg (by omega), List.drop_eq_nil_of_le (by omega)]
    rfl
  | succ d ih =>
    intro i hd hi k hk
    obtain ⟨k, rfl⟩ : ∃ j, k = j + 1 := ⟨k - 1, by omega⟩
    simp only [scriniumref07_Long.l0, bss_length]
    have e1 : m.drop i = m[i] :: m.drop (i + 1) := List.drop_eq_getElem_cons (by omega)
    rw [if_pos (by omega), if_pos (by omega), rdL_bss (by omega : i < m.length), bs_length, w64 (by omega : i < m.length) hn, e1]
    by_cases hc : long < m[i].length
    · rw [if_pos (by omega), List.any_cons, decide_eq_true hc, Bool.true_or]
    · rw [if_neg (by omega), ih (i + 1) (by omega) (by omega) k (by omega), List.any_cons, decide_eq_false hc, Bool.false_or]
theorem long_eq (m : List (List UInt8)) (hn : m.length ≤ 9223372036854775807) (many long : Nat) (k : Nat) (hk : m.length < k) : scriniumref07_Long.f k (bss m) (many : Int) (long : Int) = some (isLong m many long) := by
  unfold scriniumref07_Long.f isLong
  rw [bss_length]
  by_cases hc : many < m.length
  · rw [if_pos (by omega)]; simp [hc]
  · have e := long_loop m hn long m.length 0 (by omega) (by omega) k hk
    rw [if_neg (by omega), show (0 : Int) = ((0 : Nat) : Int) from rfl, e]; simp [hc]
theorem isLong_false {m : List (List UInt8)} {many long : Nat} (h : isLong m many long = false) : m.length ≤ many ∧ ∀ r ∈ m, r.length ≤ long := by
  unfold isLong at h
  simp at h
  exact ⟨h.1, fun r hr => by have := h.2 r hr; omega⟩
end Go.Proofs.Ytoijjlpkoniipaa.PRsEncode
