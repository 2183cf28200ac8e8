/- Joined out of texts of this claim: RefMulR, RefListR, RefCallsR, RefSumR, GfNilWalk, SumAny. Each says what it proves, and its conditions. -/
import Derived.Test.YtoijjlpkoniipaaBase
import Derived.Test.YtoijjlpkoniipaaPRsEncodex
import Derived.Test.YtoijjlpkoniipaaSums
set_option linter.unusedVariables false
set_option linter.unusedSimpArgs false
section
/- What the document's Mul and Inv come to: the field's product and inverse (over the print's plain functions of this set). Plain, no condition. -/
namespace Go.Proofs.Ytoijjlpkoniipaa.PRsEncode
open Go.RowKit Go.Proofs.YtoijjlpkoniipaaW.PrintWords Gf

theorem halves_all : ∀ n : Fin 256, UInt8.ofNat n.val = (if n.val % 2 = 1 then 1 else 0) ^^^ Gf.step (UInt8.ofNat (n.val / 2)) := by decide +kernel
theorem halves (n : UInt8) : n = (if n.toNat % 2 = 1 then 1 else 0) ^^^ Gf.step (UInt8.ofNat (n.toNat / 2)) := by
  have := halves_all ⟨n.toNat, n.toNat_lt⟩
  rwa [ofNat_toNat] at this
theorem gm_halves (x n : UInt8) : gm x n = (if n.toNat % 2 = 1 then x else 0) ^^^ gm (Gf.step x) (UInt8.ofNat (n.toNat / 2)) := by
  conv => lhs; rw [halves n]
  rw [gm_xor, ← gm_two (UInt8.ofNat _), gm_comm (UInt8.ofNat _) 2, gm_assoc, gm_two]
  congr 1
  split
  · exact gm_one x
  · exact gm_zero_right x
theorem ofNat_lt {n : Nat} (h : n < 256) : (UInt8.ofNat n).toNat = n := UInt8.toNat_ofNat_of_lt' h

theorem mul_loop (m : Nat) : ∀ (x n out : UInt8), n.toNat < 2 ^ m → ∀ k, m < k → scriniumref07_Mul.l0 k (x.toNat : Int) (n.toNat : Int) (out.toNat : Int) = some (((out ^^^ gm x n).toNat : Nat) : Int) := by
  induction m with
  | zero =>
    intro x n out hn k hk
    obtain ⟨k, rfl⟩ : ∃ j, k = j + 1 := ⟨k - 1, by omega⟩
    have h0 : n = 0 := UInt8.toNat_inj.1 (by simpa using hn)
    subst h0
    have ho := out.toNat_lt
    simp only [scriniumref07_Mul.l0]
    rw [if_neg (by simp), gm_zero_right, UInt8.xor_zero]
    congr 1
    omega
  | succ m ih =>
    intro x n out hn k hk
    obtain ⟨k, rfl⟩ : ∃ j, k = j + 1 := ⟨k - 1, by omega⟩
    have hx := x.toNat_lt
    have hn' := n.toNat_lt
    have ho := out.toNat_lt
    by_cases h0 : n.toNat = 0
    · have h0' : n = 0 := UInt8.toNat_inj.1 (by simpa using h0)
      subst h0'
      simp only [scriniumref07_Mul.l0]
      rw [if_neg (by simp), gm_zero_right, UInt8.xor_zero]
      congr 1
      omega
    · have hstep : (if wrap64 (2 * (x.toNat : Int)) > 255 then Go.bits .xor .i64 (wrap64 (2 * (x.toNat : Int))) 285 else wrap64 (2 * (x.toNat : Int))) = ((Gf.step x).toNat : Int) := by
        have hw : wrap64 (2 * (x.toNat : Int)) = ((x.toNat * 2 : Nat) : Int) := by unfold wrap64; omega
        rw [hw]
        by_cases hc : x.toNat * 2 / 256 = 0
        · rw [if_neg (by omega), step_low hc]
        · rw [if_pos (by omega), step_high hc]
          exact i64_xor_nat _ 285 (by omega) (by omega)
      have hhalf : wrap64 (Int.tdiv (n.toNat : Int) 2) = ((UInt8.ofNat (n.toNat / 2)).toNat : Int) := by
        rw [ofNat_lt (by omega), Int.tdiv_eq_ediv_of_nonneg (by omega)]; unfold wrap64; omega
      have hodd : Int.tmod (n.toNat : Int) 2 = ((n.toNat % 2 : Nat) : Int) := by rw [Int.tmod_eq_emod_of_nonneg (by omega)]; omega
      have hxor : Go.bits .xor .i64 (out.toNat : Int) (x.toNat : Int) = ((out ^^^ x).toNat : Int) := by
        rw [UInt8.toNat_xor]; exact i64_xor_nat _ _ (by omega) (by omega)
      have hlt : (UInt8.ofNat (n.toNat / 2)).toNat < 2 ^ m := by rw [ofNat_lt (by omega)]; rw [Nat.pow_succ] at hn; omega
      simp only [scriniumref07_Mul.l0]
      rw [if_pos (by omega), hodd, hhalf, hxor, gm_halves x n]
      by_cases ho2 : n.toNat % 2 = 1
      · rw [if_pos (by omega), if_pos ho2]
        have e := ih (Gf.step x) (UInt8.ofNat (n.toNat / 2)) (out ^^^ x) hlt k (by omega)
        rw [UInt8.xor_assoc] at e
        rw [← e, ← hstep]
        split <;> rfl
      · rw [if_neg (by omega), if_neg ho2]
        have e := ih (Gf.step x) (UInt8.ofNat (n.toNat / 2)) out hlt k (by omega)
        rw [UInt8.zero_xor]
        rw [← e, ← hstep]
        split <;> rfl
theorem mul_eq (x n : UInt8) (k : Nat) (hk : 8 < k) : scriniumref07_Mul.f k (x.toNat : Int) (n.toNat : Int) = some ((gm x n).toNat : Int) := by
  have hx := x.toNat_lt
  have hn := n.toNat_lt
  have h1 : wrap64 (x.toNat : Int) = (x.toNat : Int) := by unfold wrap64; omega
  have h2 : wrap64 (n.toNat : Int) = (n.toNat : Int) := by unfold wrap64; omega
  have := mul_loop 8 x n 0 (by omega) k hk
  unfold scriniumref07_Mul.f
  rw [h1, h2]
  simpa using this
theorem inv_loop (x : UInt8) (d : Nat) : ∀ b : Nat, 256 - b = d → 1 ≤ b → b ≤ 256 → (∀ y : UInt8, 1 ≤ y.toNat → y.toNat < b → gm x y ≠ 1) → ∀ k, d + 9 < k → scriniumref07_Inv.l0 k (x.toNat : Int) (b : Int) = some ((gi x).toNat : Int) := by
  induction d with
  | zero =>
    intro b hd h1 hb hno k hk
    obtain ⟨k, rfl⟩ : ∃ j, k = j + 1 := ⟨k - 1, by omega⟩
    simp only [scriniumref07_Inv.l0]
    rw [if_neg (by omega)]
    by_cases hx : x = 0
    · subst hx; rfl
    · exfalso
      have h2 := (gi x).toNat_lt
      have h3 : (gi x).toNat ≠ 0 := fun e => gi_ne_zero hx (UInt8.toNat_inj.1 (by simpa using e))
      exact hno (gi x) (by omega) (by omega) (gm_gi hx)
  | succ d ih =>
    intro b hd h1 hb hno k hk
    obtain ⟨k, rfl⟩ : ∃ j, k = j + 1 := ⟨k - 1, by omega⟩
    have hy : (UInt8.ofNat b).toNat = b := ofNat_lt (by omega)
    have hm := mul_eq x (UInt8.ofNat b) k (by omega)
    rw [hy] at hm
    have hmod : ((b : Int) % 256) = (b : Int) := by omega
    simp only [scriniumref07_Inv.l0]
    rw [if_pos (by omega), hmod, hm]
    simp only [Option.bind_some]
    by_cases hg : gm x (UInt8.ofNat b) = 1
    · rw [if_pos (by rw [hg]; rfl), ← gi_unique hg, hy]
    · have hne : ((gm x (UInt8.ofNat b)).toNat : Int) ≠ 1 := fun e => hg (UInt8.toNat_inj.1 (Int.ofNat.inj e))
      rw [if_neg hne]
      have hw : wrap64 ((b : Int) + 1) = ((b + 1 : Nat) : Int) := by unfold wrap64; omega
      rw [hw]
      refine ih (b + 1) (by omega) (by omega) (by omega) (fun y h4 h5 => ?_) k (by omega)
      by_cases hyb : y.toNat = b
      · have : y = UInt8.ofNat b := UInt8.toNat_inj.1 (by rw [hy, hyb])
        rw [this]; exact hg
      · exact hno y h4 (by omega)
theorem inv_eq (x : UInt8) (k : Nat) (hk : 264 < k) : scriniumref07_Inv.f k (x.toNat : Int) = some ((gi x).toNat : Int) :=
  inv_loop x 255 1 rfl (by omega) (by omega) (fun y h1 h2 => by omega) k (by omega)
end Go.Proofs.Ytoijjlpkoniipaa.PRsEncode
end
section
/- What the document's Same, SameAll, CopyAll and Long come to, over bytes (over the print's plain functions of this set). Plain; lengths below a bound that the statements give. -/
namespace Go.Proofs.Ytoijjlpkoniipaa.PRsEncode
open Go.RowKit Go.Proofs.YtoijjlpkoniipaaW.PrintWords Gf

theorem rd_bs {l : List UInt8} {i : Nat} (h : i < l.length) : rd (bs l) (i : Int) = ((l[i]).toNat : Int) := by
  unfold rd bs
  simp [h]
theorem rdL_bss {m : List (List UInt8)} {i : Nat} (h : i < m.length) : rd_L1 (bss m) (i : Int) = bs m[i] := by
  unfold rd_L1 bss
  simp [h]
theorem w64 {i n : Nat} (h : i < n) (hn : n ≤ 9223372036854775807) : wrap64 ((i : Int) + 1) = ((i + 1 : Nat) : Int) := by unfold wrap64; omega

theorem same_loop (a b : List UInt8) (hl : a.length = b.length) (hn : a.length ≤ 9223372036854775807) (d : Nat) :
    ∀ i : Nat, a.length - i = d → i ≤ a.length → ∀ k, d < k → scriniumref01_Same.l0 k (bs a) (bs b) (i : Int) = some (decide (a.drop i = b.drop i)) := by
  induction d with
  | zero =>
    intro i hd hi k hk
    obtain ⟨k, rfl⟩ : ∃ j, k = j + 1 := ⟨k - 1, by omega⟩
    simp only [scriniumref01_Same.l0, bs_length]
    rw [if_neg (by omega), List.drop_eq_nil_of_le (by omega), List.drop_eq_nil_of_le (by omega)]
    simp
  | succ d ih =>
    intro i hd hi k hk
    obtain ⟨k, rfl⟩ : ∃ j, k = j + 1 := ⟨k - 1, by omega⟩
    simp only [scriniumref01_Same.l0, bs_length]
    rw [if_pos (by omega), if_pos (by omega), if_pos (by omega), rd_bs (by omega : i < a.length), rd_bs (by omega : i < b.length), w64 (by omega : i < a.length) hn]
    have e1 : a.drop i = a[i] :: a.drop (i + 1) := List.drop_eq_getElem_cons (by omega)
    have e2 : b.drop i = b[i] :: b.drop (i + 1) := List.drop_eq_getElem_cons (by omega)
    by_cases he : a[i] = b[i]
    · rw [if_pos (by rw [he]), ih (i + 1) (by omega) (by omega) k (by omega), e1, e2, he]
      simp only [List.cons.injEq, true_and]
    · have hne : ¬ ((a[i].toNat : Int) = (b[i].toNat : Int)) := fun e => he (UInt8.toNat_inj.1 (Int.ofNat.inj e))
      rw [if_neg hne, e1, e2]
      simp only [List.cons.injEq, he, false_and, decide_false]
theorem same_eq (a b : List UInt8) (hn : a.length ≤ 9223372036854775807) (k : Nat) (hk : a.length < k) : scriniumref01_Same.f k (bs a) (bs b) = some (decide (a = b)) := by
  unfold scriniumref01_Same.f
  rw [bs_length, bs_length]
  by_cases hl : a.length = b.length
  · rw [if_pos (by omega)]
    have := same_loop a b hl hn a.length 0 (by omega) (by omega) k hk
    simpa using this
  · rw [if_neg (by omega)]
    have : a ≠ b := fun e => hl (by rw [e])
    simp [this]
/-- Rows are below a length. -/
def Rowsle (m : List (List UInt8)) (n : Nat) : Prop := ∀ r ∈ m, r.length ≤ n
theorem sameall_loop (a b : List (List UInt8)) (hl : a.length = b.length) (hn : a.length ≤ 9223372036854775807) (n : Nat) (ha : Rowsle a n) (hn' : n ≤ 9223372036854775807) (d : Nat) :
    ∀ i : Nat, a.length - i = d → i ≤ a.length → ∀ k, d + n + 1 < k → scriniumref07_SameAll.l0 k (bss a) (bss b) (i : Int) = some (decide (a.drop i = b.drop i)) := by
  induction d with
  | zero =>
    intro i hd hi k hk
    obtain ⟨k, rfl⟩ : ∃ j, k = j + 1 := ⟨k - 1, by omega⟩
    simp only [scriniumref07_SameAll.l0, bss_length]
    rw [if_neg (by omega), List.drop_eq_nil_of_le (by omega), List.drop_eq_nil_of_le (by omega)]
    simp
  | succ d ih =>
    intro i hd hi k hk
    obtain ⟨k, rfl⟩ : ∃ j, k = j + 1 := ⟨k - 1, by omega⟩
    simp only [scriniumref07_SameAll.l0, bss_length]
    have hai := ha a[i] (List.getElem_mem _)
    rw [if_pos (by omega), if_pos (by omega), if_pos (by omega), rdL_bss (by omega : i < a.length), rdL_bss (by omega : i < b.length), w64 (by omega : i < a.length) hn,
      same_eq _ _ (by omega) k (by omega)]
    simp only [Option.bind_some]
    have e1 : a.drop i = a[i] :: a.drop (i + 1) := List.drop_eq_getElem_cons (by omega)
    have e2 : b.drop i = b[i] :: b.drop (i + 1) := List.drop_eq_getElem_cons (by omega)
    by_cases he : a[i] = b[i]
    · rw [if_pos (by simp [he]), ih (i + 1) (by omega) (by omega) k (by omega), e1, e2, he]
      simp only [List.cons.injEq, true_and]
    · rw [if_neg (by simp [he]), e1, e2]
      simp only [List.cons.injEq, he, false_and, decide_false]
theorem sameall_eq (a b : List (List UInt8)) (hn : a.length ≤ 9223372036854775807) (n : Nat) (ha : Rowsle a n) (hn' : n ≤ 9223372036854775807) (k : Nat) (hk : a.length + n + 1 < k) :
    scriniumref07_SameAll.f k (bss a) (bss b) = some (decide (a = b)) := by
  unfold scriniumref07_SameAll.f
  rw [bss_length, bss_length]
  by_cases hl : a.length = b.length
  · rw [if_pos (by omega)]
    have := sameall_loop a b hl hn n ha hn' a.length 0 (by omega) (by omega) k hk
    simpa using this
  · rw [if_neg (by omega)]
    have : a ≠ b := fun e => hl (by rw [e])
    simp [this]
theorem copy_loop (m : List (List UInt8)) (hn : m.length ≤ 5864062014804) (hr : ∀ r ∈ m, r.length < 140737488355328) (d : Nat) :
    ∀ i : Nat, m.length - i = d → i ≤ m.length → ∀ k, d < k → scriniumref07_CopyAll.l0 k (bss m) (bss (m.take i)) (i : Int) = some (bss m) := by
  induction d with
  | zero =>
    intro i hd hi k hk
    obtain ⟨k, rfl⟩ : ∃ j, k = j + 1 := ⟨k - 1, by omega⟩
    simp only [scriniumref07_CopyAll.l0, bss_length]
    rw [if_neg (by omega), List.take_of_length_le (by omega)]
  | succ d ih =>
    intro i hd hi k hk
    obtain ⟨k, rfl⟩ : ∃ j, k = j + 1 := ⟨k - 1, by omega⟩
    have hri := hr m[i] (List.getElem_mem _)
    simp only [scriniumref07_CopyAll.l0, bss_length]
    rw [if_pos (by omega), if_pos (by omega), rdL_bss (by omega : i < m.length), bs_length, if_pos (by simp; omega), if_pos (by rw [List.length_take]; omega), w64 (by omega : i < m.length) (by omega)]
    have e : bss (m.take i) ++ [([] : List Int) ++ bs m[i]] = bss (m.take (i + 1)) := by
      rw [List.take_succ_eq_append_getElem (by omega)]
      unfold bss
      rw [List.map_append]; rfl
    rw [e]
    exact ih (i + 1) (by omega) (by omega) k (by omega)
theorem copy_eq (m : List (List UInt8)) (hn : m.length ≤ 5864062014804) (hr : ∀ r ∈ m, r.length < 140737488355328) (k : Nat) (hk : m.length < k) : scriniumref07_CopyAll.f k (bss m) = some (bss m) := by
  unfold scriniumref07_CopyAll.f
  have := copy_loop m hn hr m.length 0 (by omega) (by omega) k hk
  simpa [bss] using this
/-- More texts, or longer ones? -/
def isLong (m : List (List UInt8)) (many long : Nat) : Bool := decide (many < m.length) || m.any (fun r => decide (long < r.length))
theorem long_loop (m : List (List UInt8)) (hn : m.length ≤ 9223372036854775807) (long : Nat) (d : Nat) :
    ∀ i : Nat, m.length - i = d → i ≤ m.length → ∀ k, d < k → scriniumref07_Long.l0 k (bss m) (long : Int) (i : Int) = some ((m.drop i).any (fun r => decide (long < r.length))) := by
  induction d with
  | zero =>
    intro i hd hi k hk
    obtain ⟨k, rfl⟩ : ∃ j, k = j + 1 := ⟨k - 1, by omega⟩
    simp only [scriniumref07_Long.l0, bss_length]
    rw [if_neg (by omega), List.drop_eq_nil_of_le (by omega)]
    rfl
  | succ d ih =>
    intro i hd hi k hk
    obtain ⟨k, rfl⟩ : ∃ j, k = j + 1 := ⟨k - 1, by omega⟩
    simp only [scriniumref07_Long.l0, bss_length]
    have e1 : m.drop i = m[i] :: m.drop (i + 1) := List.drop_eq_getElem_cons (by omega)
    rw [if_pos (by omega), if_pos (by omega), rdL_bss (by omega : i < m.length), bs_length, w64 (by omega : i < m.length) hn, e1]
    by_cases hc : long < m[i].length
    · rw [if_pos (by omega), List.any_cons, decide_eq_true hc, Bool.true_or]
    · rw [if_neg (by omega), ih (i + 1) (by omega) (by omega) k (by omega), List.any_cons, decide_eq_false hc, Bool.false_or]
theorem long_eq (m : List (List UInt8)) (hn : m.length ≤ 9223372036854775807) (many long : Nat) (k : Nat) (hk : m.length < k) : scriniumref07_Long.f k (bss m) (many : Int) (long : Int) = some (isLong m many long) := by
  unfold scriniumref07_Long.f isLong
  rw [bss_length]
  by_cases hc : many < m.length
  · rw [if_pos (by omega)]; simp [hc]
  · have e := long_loop m hn long m.length 0 (by omega) (by omega) k hk
    rw [if_neg (by omega), show (0 : Int) = ((0 : Nat) : Int) from rfl, e]; simp [hc]
theorem isLong_false {m : List (List UInt8)} {many long : Nat} (h : isLong m many long = false) : m.length ≤ many ∧ ∀ r ∈ m, r.length ≤ long := by
  unfold isLong at h
  simp at h
  exact ⟨h.1, fun r hr => by have := h.2 r hr; omega⟩
end Go.Proofs.Ytoijjlpkoniipaa.PRsEncode
end
section
/- The document's functions of layer 1 and 7 by their contracts, over bytes. -/
namespace Go.Proofs.Ytoijjlpkoniipaa
open Go.RowKit Go.Proofs.YtoijjlpkoniipaaW.PrintWords Gf PRsEncode

theorem ref_mul (a b : UInt8) (w : World) : Calls Try.prog 29 #[.int .u8 (a.toNat : Int), .int .u8 (b.toNat : Int)] w fun e w' => e = .returned (.int .u8 ((gm a b).toNat : Int)) ∧ Drawn0 w w' :=
  scriniumref07_Mul.calls 9 _ _ _ w (mul_eq a b 9 (by omega))
theorem ref_inv (a : UInt8) (w : World) : Calls Try.prog 30 #[.int .u8 (a.toNat : Int)] w fun e w' => e = .returned (.int .u8 ((gi a).toNat : Int)) ∧ Drawn0 w w' :=
  scriniumref07_Inv.calls 265 _ _ w (inv_eq a 265 (by omega))
theorem ref_same (A : Option Addr) (xs : List UInt8) (c : Nat) (A' : Option Addr) (ys : List UInt8) (c' : Nat) (w : World) (hr : KB.C w A xs.length (bs xs)) (hc : xs.length ≤ c) (hr' : KB.C w A' ys.length (bs ys)) (hc' : ys.length ≤ c') :
    Calls Try.prog 35 #[.slice A xs.length c, .slice A' ys.length c'] w fun e w' => e = .returned (.bool (decide (xs = ys))) ∧ Drawn0 w w' := by
  have h := scriniumref01_Same.calls (xs.length + 1) A c (bs xs) A' c' (bs ys) _ w (by rw [bs_length]; exact hr) (by rw [bs_length]; exact hc) (by rw [bs_length]; exact hr') (by rw [bs_length]; exact hc') (same_eq xs ys hr.2.1 _ (by omega))
  rwa [bs_length, bs_length] at h
theorem ref_sameall (n : Nat) (A : Option Addr) (xs : List (List UInt8)) (c : Nat) (A' : Option Addr) (ys : List (List UInt8)) (c' : Nat) (w : World) (hr : KBB.C w A xs.length (bss xs)) (hc : xs.length ≤ c) (hr' : KBB.C w A' ys.length (bss ys)) (hc' : ys.length ≤ c')
    (hx : Rowsle xs n) (hn : n ≤ 9223372036854775807) :
    Calls Try.prog 36 #[.slice A xs.length c, .slice A' ys.length c'] w fun e w' => e = .returned (.bool (decide (xs = ys))) ∧ Drawn0 w w' := by
  have h := scriniumref07_SameAll.calls (xs.length + n + 2) A c (bss xs) A' c' (bss ys) _ w (by rw [bss_length]; exact hr) (by rw [bss_length]; exact hc) (by rw [bss_length]; exact hr') (by rw [bss_length]; exact hc') (sameall_eq xs ys hr.2.1 n hx hn _ (by omega))
  rwa [bss_length, bss_length] at h
theorem ref_long (A : Option Addr) (xs : List (List UInt8)) (c many long : Nat) (w : World) (hr : KBB.C w A xs.length (bss xs)) (hc : xs.length ≤ c) :
    Calls Try.prog 31 #[.slice A xs.length c, .int .i64 (many : Int), .int .i64 (long : Int)] w fun e w' => e = .returned (.bool (isLong xs many long)) ∧ Drawn0 w w' := by
  have h := scriniumref07_Long.calls (xs.length + 1) A c (bss xs) many long _ w (by rw [bss_length]; exact hr) (by rw [bss_length]; exact hc) (long_eq xs hr.2.1 many long _ (by omega))
  rwa [bss_length] at h
theorem C_of_S {w : World} {e base : Nat} {ok : Nat → Prop} {v : Value} {xs : List (List UInt8)} (h : Kd.S KBB e w base ok v (bss xs)) : ∃ A c, v = .slice A xs.length c ∧ xs.length ≤ c ∧ KBB.C w A xs.length (bss xs) := by
  obtain ⟨A, c, hv, hc, hr⟩ := Kd.R_reads (Kd.S_R h)
  rw [bss_length] at hv hc hr
  exact ⟨A, c, hv, hc, hr⟩
theorem C_of_R {w : World} {e base : Nat} {ok : Nat → Prop} {v : Value} {xs : List UInt8} (h : Kd.R KB e w base ok v (bs xs)) : ∃ A c, v = .slice A xs.length c ∧ xs.length ≤ c ∧ KB.C w A xs.length (bs xs) := by
  obtain ⟨A, c, hv, hc, hr⟩ := Kd.R_reads h
  rw [bs_length] at hv hc hr
  exact ⟨A, c, hv, hc, hr⟩
theorem ref_copy (A : Option Addr) (xs : List (List UInt8)) (c : Nat) (w : World) (hr : KBB.C w A xs.length (bss xs)) (hc : xs.length ≤ c) (hn : xs.length ≤ 1000) (hl : ∀ r ∈ xs, r.length ≤ 1000) :
    Calls Try.prog 32 #[.slice A xs.length c] w fun e w' => ∃ A' c', e = .returned (.slice A' xs.length c') ∧ xs.length ≤ c' ∧ KBB.C w' A' xs.length (bss xs) ∧ Below w.heap.size w w' := by
  have h := scriniumref07_CopyAll.calls (xs.length + 1) A c (bss xs) _ w (by rw [bss_length]; exact hr) (by rw [bss_length]; exact hc) (copy_eq xs (by omega) (fun r h => by have := hl r h; omega) _ (by omega))
  rw [bss_length] at h
  refine h.mono ?_
  rintro e w' ⟨v, rfl, hs, hb⟩
  obtain ⟨A', c', rfl, h1, h2⟩ := C_of_S hs
  exact ⟨A', c', rfl, h1, h2, hb⟩
end Go.Proofs.Ytoijjlpkoniipaa
end
section
/- What the document's Sum comes to, over bytes (over the print's plain functions of this set). Plain; lengths below a bound that the statements give. -/
namespace Go.Proofs.Ytoijjlpkoniipaa.PRsEncode
open Go.RowKit Go.Proofs.YtoijjlpkoniipaaW.PrintWords Gf Lin

theorem rd_gb {l : List UInt8} {i : Nat} (h : i < l.length) : rd (bs l) (i : Int) = ((gb l i).toNat : Int) := by rw [rd_bs h, gb_at h]
theorem rdL_gr {m : List (List UInt8)} {i : Nat} (h : i < m.length) : rd_L1 (bss m) (i : Int) = bs (gr m i) := by rw [rdL_bss h, gr_at h]
theorem gr_zero {m : List (List UInt8)} : gr m 0 = m.headD [] := by cases m <;> rfl
theorem alike_len {m : List (List UInt8)} (ha : Alike m) {i : Nat} (h : i < m.length) : (gr m i).length = (m.headD []).length := by rw [gr_at h]; exact ha _ (List.getElem_mem _)

theorem sum_l2_step (cs : List UInt8) (m : List (List UInt8)) (out : List Int) (j i : Nat) (b : UInt8) (hil : i < m.length) (hl : cs.length = m.length) (L : Nat) (hrow : (gr m i).length = L) (hj : j < L) (hm : m.length ≤ 1000) (k : Nat) (hk : 9 ≤ k) :
    scriniumref07_Sum.l2 (k + 1) (bs cs) (bss m) out (j : Int) ((b).toNat : Int) (i : Int) = scriniumref07_Sum.l2 k (bs cs) (bss m) out (j : Int) (((ga b (gm (gb cs i) (gb (gr m i) j)))).toNat : Int) ((i + 1 : Nat) : Int) := by
  conv => lhs; unfold scriniumref07_Sum.l2
  rw [bss_length, bs_length, if_pos (by omega), if_pos (by omega), if_pos (by omega), if_pos (by omega), rdL_gr hil, bs_length, if_pos (by omega)]
  rw [rd_gb (by omega), rd_gb (by omega)]
  rw [mul_eq _ _ _ (by omega)]
  simp only [Option.bind_some]
  rw [u8_xor_all, w64 hil (by omega)]
theorem sum_l2_end (cs : List UInt8) (m : List (List UInt8)) (out : List Int) (j : Nat) (b : UInt8) (h : out.length < 140737488355328) (k : Nat) : scriniumref07_Sum.l2 (k + 1) (bs cs) (bss m) out (j : Int) ((b).toNat : Int) (m.length : Int) =
      scriniumref07_Sum.l1 k (bs cs) (bss m) (out ++ [((b).toNat : Int)]) (wrap64 ((j : Int) + 1)) := by
  conv => lhs; unfold scriniumref07_Sum.l2
  rw [bss_length, if_neg (by omega), if_pos h]
theorem sum_l2 (cs : List UInt8) (m : List (List UInt8)) (hl : cs.length = m.length) (ha : Alike m) (hm : m.length ≤ 1000) (out : List Int) (ho : out.length < 140737488355328) (j : Nat) (hj : j < (m.headD []).length) (d : Nat) :
    ∀ i : Nat, m.length - i = d → i ≤ m.length → ∀ k, 9 ≤ k → scriniumref07_Sum.l2 (k + d + 1) (bs cs) (bss m) out (j : Int) ((sumAt cs m i j).toNat : Int) (i : Int) =
      scriniumref07_Sum.l1 k (bs cs) (bss m) (out ++ [((sumAt cs m m.length j).toNat : Int)]) (wrap64 ((j : Int) + 1)) := by
  induction d with
  | zero =>
    intro i hd hi k hk
    have : i = m.length := by omega
    subst this
    exact sum_l2_end cs m out j _ ho k
  | succ d ih =>
    intro i hd hi k hk
    have hil : i < m.length := by omega
    have e := sum_l2_step cs m out j i (sumAt cs m i j) hil hl _ (alike_len ha hil) hj hm (k + (d + 1)) (by omega)
    rw [e, ← sumAt_succ]
    exact ih (i + 1) (by omega) (by omega) k hk
theorem sum_l1 (cs : List UInt8) (m : List (List UInt8)) (hl : cs.length = m.length) (ha : Alike m) (hm : m.length ≤ 1000) (hL : (m.headD []).length ≤ 1000000) (d : Nat) :
    ∀ j : Nat, (m.headD []).length - j = d → j ≤ (m.headD []).length → ∀ k, 9 ≤ k → scriniumref07_Sum.l1 (k + d * (m.length + 3) + 2) (bs cs) (bss m) (bs ((List.range j).map (sumAt cs m m.length))) (j : Int) = some (bs (sumB cs m), 0) := by
  induction d with
  | zero =>
    intro j hd hj k hk
    have : j = (m.headD []).length := by omega
    subst this
    rw [Nat.zero_mul, Nat.add_zero]
    simp only [scriniumref07_Sum.l1, scriniumref07_Sum.j2, bss_length]
    by_cases h0 : 0 < m.length
    · have e0 : rd_L1 (bss m) 0 = bs (m.headD []) := by have := rdL_gr (m := m) h0; rw [gr_zero] at this; exact this
      rw [if_pos (by omega), if_pos (by omega), e0, bs_length]
      simp [sumB]
    · rw [if_neg (by omega)]
      simp [sumB]
  | succ d ih =>
    intro j hd hj k hk
    have h0 : 0 < m.length := by
      cases m with
      | nil => simp at hd
      | cons r t => simp
    have e0 : rd_L1 (bss m) 0 = bs (m.headD []) := by have := rdL_gr (m := m) h0; rw [gr_zero] at this; exact this
    have hk2 : k + (d + 1) * (m.length + 3) + 2 = ((k + d * (m.length + 3) + 2) + m.length + 1) + 1 + 1 := by rw [Nat.add_mul, Nat.one_mul]; omega
    rw [hk2]
    conv => lhs; unfold scriniumref07_Sum.l1
    rw [bss_length, if_pos (by omega), if_pos (by omega), e0, bs_length]
    conv => lhs; unfold scriniumref07_Sum.j2
    rw [if_pos (decide_eq_true (by omega))]
    have e2 := sum_l2 cs m hl ha hm (bs ((List.range j).map (sumAt cs m m.length))) (by simp; omega) j (by omega) m.length 0 (by omega) (by omega) (k + d * (m.length + 3) + 2) (by omega)
    rw [show sumAt cs m 0 j = 0 from rfl] at e2
    rw [show ((0 : UInt8).toNat : Int) = 0 from rfl] at e2
    rw [show ((0 : Nat) : Int) = 0 from rfl] at e2
    rw [e2, show wrap64 ((j : Int) + 1) = ((j + 1 : Nat) : Int) by unfold wrap64; omega]
    have e3 : bs ((List.range j).map (sumAt cs m m.length)) ++ [((sumAt cs m m.length j).toNat : Int)] = bs ((List.range (j + 1)).map (sumAt cs m m.length)) := by
      rw [List.range_succ, List.map_append]; unfold bs; rw [List.map_append]; rfl
    rw [e3]
    exact ih (j + 1) (by omega) (by omega) k hk
theorem sum_l0 (cs : List UInt8) (m : List (List UInt8)) (ha : Alike m) (hm : m.length ≤ 1000) (d : Nat) :
    ∀ i : Nat, m.length - i = d → i ≤ m.length → ∀ k, scriniumref07_Sum.l0 (k + d + 1) (bs cs) (bss m) (i : Int) = scriniumref07_Sum.l1 k (bs cs) (bss m) [] 0 := by
  induction d with
  | zero =>
    intro i hd hi k
    simp only [scriniumref07_Sum.l0, bss_length]
    rw [if_neg (by omega)]
  | succ d ih =>
    intro i hd hi k
    have hil : i < m.length := by omega
    have e0 : rd_L1 (bss m) 0 = bs (m.headD []) := by have := rdL_gr (m := m) (i := 0) (by omega); rw [gr_zero] at this; exact this
    rw [show k + (d + 1) + 1 = (k + d + 1) + 1 from rfl]
    conv => lhs; unfold scriniumref07_Sum.l0
    rw [bss_length, if_pos (by omega), if_pos (by omega), if_pos (by omega), rdL_gr hil, e0, bs_length, bs_length, if_pos (by rw [alike_len ha hil]), w64 hil (by omega)]
    exact ih (i + 1) (by omega) (by omega) k
theorem sum_l0_bad (cs : List UInt8) (m : List (List UInt8)) (hm : m.length ≤ 1000) (b : Nat) (hbm : b < m.length) (hrows : ∀ i, i < b → (gr m i).length = (gr m 0).length) (hbad : (gr m b).length ≠ (gr m 0).length) (d : Nat) :
    ∀ i : Nat, b - i = d → i ≤ b → ∀ k, d < k → scriniumref07_Sum.l0 k (bs cs) (bss m) (i : Int) = some ([], 14) := by
  induction d with
  | zero =>
    intro i hd hi k hk
    obtain ⟨k, rfl⟩ : ∃ j, k = j + 1 := ⟨k - 1, by omega⟩
    have : i = b := by omega
    subst this
    have e0 : rd_L1 (bss m) 0 = bs (gr m 0) := rdL_gr (m := m) (i := 0) (by omega)
    conv => lhs; unfold scriniumref07_Sum.l0
    rw [bss_length, if_pos (by omega), if_pos (by omega), if_pos (by omega), rdL_gr hbm, e0, bs_length, bs_length, if_neg (by omega)]
  | succ d ih =>
    intro i hd hi k hk
    obtain ⟨k, rfl⟩ : ∃ j, k = j + 1 := ⟨k - 1, by omega⟩
    have hil : i < m.length := by omega
    have e0 : rd_L1 (bss m) 0 = bs (gr m 0) := rdL_gr (m := m) (i := 0) (by omega)
    conv => lhs; unfold scriniumref07_Sum.l0
    rw [bss_length, if_pos (by omega), if_pos (by omega), if_pos (by omega), rdL_gr hil, e0, bs_length, bs_length, if_pos (by rw [hrows i (by omega)]), w64 hil (by omega)]
    exact ih (i + 1) (by omega) (by omega) k (by omega)
/-- How many rounds a sum takes. -/
def sumK (m : List (List UInt8)) : Nat := 12 + (m.headD []).length * (m.length + 3) + m.length
theorem sum_eq (cs : List UInt8) (m : List (List UInt8)) (hl : cs.length = m.length) (ha : Alike m) (hm : m.length ≤ 1000) (hL : (m.headD []).length ≤ 1000000) (k : Nat) (hk : sumK m ≤ k) :
    scriniumref07_Sum.f k (bs cs) (bss m) = some (bs (sumB cs m), 0) := by
  refine at_rounds (scriniumref07_Sum.mono (bs cs) (bss m)) hk ?_
  unfold scriniumref07_Sum.f sumK
  rw [bs_length, bss_length, if_pos (by omega)]
  have e := sum_l0 cs m ha hm m.length 0 (by omega) (by omega) (9 + (m.headD []).length * (m.length + 3) + 2)
  rw [show 12 + (m.headD []).length * (m.length + 3) + m.length = 9 + (m.headD []).length * (m.length + 3) + 2 + m.length + 1 by omega]
  rw [show (0 : Int) = ((0 : Nat) : Int) from rfl, e]
  exact sum_l1 cs m hl ha hm hL (m.headD []).length 0 (by omega) (by omega) 9 (by omega)
theorem sum_eq_len (cs : List UInt8) (m : List (List UInt8)) (hl : cs.length ≠ m.length) (k : Nat) : scriniumref07_Sum.f k (bs cs) (bss m) = some ([], 14) := by
  unfold scriniumref07_Sum.f
  rw [bs_length, bss_length, if_neg (by omega)]
theorem sum_eq_bad (cs : List UInt8) (m : List (List UInt8)) (hm : m.length ≤ 1000) (ha : ¬ Alike m) (k : Nat) (hk : m.length < k) : scriniumref07_Sum.f k (bs cs) (bss m) = some ([], 14) := by
  unfold scriniumref07_Sum.f
  rw [bs_length, bss_length]
  by_cases hl : cs.length = m.length
  · rw [if_pos (by omega)]
    obtain ⟨b, hb0, hbm, h1, h2⟩ := not_alike ha
    exact sum_l0_bad cs m hm b hbm h1 h2 b 0 (by omega) (by omega) k (by omega)
  · rw [if_neg (by omega)]
end Go.Proofs.Ytoijjlpkoniipaa.PRsEncode
end
section
/- The walks of GfNil and GfLinear. -/
namespace Go.Proofs.Ytoijjlpkoniipaa
open Go.RowKit Go.Proofs.YtoijjlpkoniipaaW.PrintWords Gf Lin

/-- A list of texts, out of its cells. -/
theorem CC_of_cells {w : World} {A : Option Addr} (m : List (List UInt8)) (hn : m.length ≤ 9223372036854775807)
    (h : 0 < m.length → ∃ ad, A = some ad ∧ ∀ j (_ : j < m.length), ∃ B c, w.cell? (ad.add j) = some (.slice B (gr m j).length c) ∧ (gr m j).length ≤ c ∧ KB.C w B (gr m j).length (bs (gr m j))) : KBB.C w A m.length (bss m) := by
  refine ⟨by simp, hn, fun hp => ?_⟩
  obtain ⟨ad, hA, hc⟩ := h hp
  refine ⟨ad, hA, fun j q hj => ?_⟩
  have hjl : j < m.length := by
    have := (List.getElem?_eq_some_iff.1 hj).1
    simpa using this
  have hq : q = bs m[j] := by
    unfold bss at hj
    rw [List.getElem?_map, List.getElem?_eq_getElem hjl] at hj
    simpa using hj.symm
  obtain ⟨B, c, h1, h2, h3⟩ := hc j hjl
  rw [gr_at hjl] at h1 h2 h3
  subst hq
  refine ⟨[.slice B m[j].length c], rfl, ⟨B, c, by rw [bs_length], by rw [bs_length]; exact h2, by rw [bs_length]; exact h3⟩, fun i u hu => ?_⟩
  have hi : i = 0 := by
    have := (List.getElem?_eq_some_iff.1 hu).1
    simpa using this
  subst hi
  simp at hu
  subst hu
  show w.cell? (ad.add (j * 1 + 0)) = _
  rw [Nat.mul_one, Nat.add_zero]; exact h1
/-- A text out of its cells. -/
theorem C_of_cells {w : World} {A : Option Addr} (xs : List UInt8) (hn : xs.length ≤ 9223372036854775807)
    (h : 0 < xs.length → ∃ ad, A = some ad ∧ ∀ j (_ : j < xs.length), w.cell? (ad.add j) = some (.int .u8 ((gb xs j).toNat : Int))) : KB.C w A xs.length (bs xs) := by
  have := C_ints (w := w) (k := .u8) (A := A) (zs := bs xs) (by rw [bs_length]; exact hn) (fun hp => by
    rw [bs_length] at hp
    obtain ⟨ad, hA, hc⟩ := h hp
    refine ⟨ad, hA, fun j hj => ?_⟩
    rw [bs_length] at hj
    rw [hc j hj, gb_at hj]
    simp [bs, hj])
  rwa [bs_length] at this
theorem add_at (g j : Nat) : (⟨g, 0, none⟩ : Addr).add j = ⟨g, j, none⟩ := add_plain g j

set_option maxHeartbeats 4000000 in
theorem GfNil_walk (a b : UInt8) (n : Int) (n0 : -9223372036854775808 ≤ n) (n1 : n ≤ 9223372036854775807) (w : World) :
    Calls Try.prog 9 #[.int .u8 (a.toNat : Int), .int .u8 (b.toNat : Int), .int .i64 n] w fun e w' => e = .returned (.bool true) ∧ Below w.heap.size w w' := by
  go_enter Try.func9, Try.ntmps9
  go_wp2_with fail
  refine (wakes07 _).mono ?_
  rintro e w0 ⟨rfl, hb0⟩
  go_wp2_with fail
  refine (inv_nil _ _).mono ?_
  rintro e w2 ⟨rfl, ⟨m1, rfl⟩⟩
  go_wp2_with fail
  refine (div_nil _ _ _).mono ?_
  rintro e w2 ⟨rfl, ⟨m1, rfl⟩⟩
  go_wp2_with fail
  refine (sum_nil _ _ _ _ _ _ _).mono ?_
  rintro e w2 ⟨rfl, ⟨m1, rfl⟩⟩
  go_wp2_with fail
  refine (mul_nil _ _ _).mono ?_
  rintro e w2 ⟨rfl, ⟨m1, rfl⟩⟩
  go_wp2_with fail
  refine (exp_nil _ _).mono ?_
  rintro e w2 ⟨rfl, ⟨m1, rfl⟩⟩
  go_wp2_with fail
  refine (scale_nil _ _ _ _ _).mono ?_
  rintro e w2 ⟨rfl, ⟨m1, rfl⟩⟩
  go_wp2_with fail
  go_ret
  exact ⟨rfl, by repeat (first | exact hb0 | (refine Below.alloc ?_ (by simp; have := hb0.size; omega) _) | refine pw_below_drewN ?_ _)⟩
/-- Sum's contract, the lengths as letters. -/
theorem sum_okF (g : Nat) (A : Option Addr) (cs : List UInt8) (n c : Nat) (A' : Option Addr) (m : List (List UInt8)) (n' c' : Nat) (w : World) (e1 : cs.length = n) (e2 : m.length = n') (ht : Tab w g) (hg : g < w.heap.size)
    (hr : KB.C w A n (bs cs)) (hc : n ≤ c) (hr' : KBB.C w A' n' (bss m)) (hc' : n' ≤ c') (hl : n = n') (ha : Alike m) (hn : (m.headD []).length ≤ 1000000) :
    Calls Try.prog 33 #[.pointer (some ⟨g, 0, none⟩), .slice A n c, .slice A' n' c'] w fun e w' =>
      ∃ B d, e = .returned (.tuple #[.slice B (sumB cs m).length d, .int .i64 0]) ∧ (sumB cs m).length ≤ d ∧ KB.C w' B (sumB cs m).length (bs (sumB cs m)) ∧ Below w.heap.size w w' := by
  subst e1; subst e2
  exact sum_ok g A cs c A' m c' w ht hg hr hc hr' hc' hl ha hn
theorem scale_F (g : Nat) (a : UInt8) (A : Option Addr) (xs : List UInt8) (n c : Nat) (w : World) (e : xs.length = n) (ht : Tab w g) (hg : g < w.heap.size) (hr : KB.C w A n (bs xs)) (hc : n ≤ c) (hn : n ≤ 1000000) :
    Calls Try.prog 37 #[.pointer (some ⟨g, 0, none⟩), .int .u8 (a.toNat : Int), .slice A n c] w fun e w' =>
      ∃ A' c', e = .returned (.slice A' n c') ∧ n ≤ c' ∧ KB.C w' A' n (bs (scl a xs)) ∧ Below w.heap.size w w' := by
  subst e
  exact scale_calls g a A xs c w ht hg hr hc hn
theorem same_F (A : Option Addr) (xs : List UInt8) (n c : Nat) (A' : Option Addr) (ys : List UInt8) (n' c' : Nat) (w : World) (hr : KB.C w A n (bs xs)) (hc : n ≤ c) (hr' : KB.C w A' n' (bs ys)) (hc' : n' ≤ c') :
    Calls Try.prog 35 #[.slice A n c, .slice A' n' c'] w fun e w' => e = .returned (.bool (decide (xs = ys))) ∧ Drawn0 w w' := by
  have e := C_len hr
  have e' := C_len hr'
  subst e; subst e'
  exact ref_same A xs c A' ys c' w hr hc hr' hc'
theorem same_T (A : Option Addr) (xs : List UInt8) (n c : Nat) (A' : Option Addr) (n' c' : Nat) (w : World) (hr : KB.C w A n (bs xs)) (hc : n ≤ c) (hr' : KB.C w A' n' (bs xs)) (hc' : n' ≤ c') :
    Calls Try.prog 35 #[.slice A n c, .slice A' n' c'] w fun e w' => e = .returned (.bool true) ∧ Drawn0 w w' := by
  have h := same_F A xs n c A' xs n' c' w hr hc hr' hc'
  simpa using h
theorem lin_sum (c d : UInt8) (xs : List UInt8) : sumB [c, d] [xs, xs] = scl (ga c d) xs := by
  apply List.ext_getElem
  · simp [sumB]
  · intro i h1 h2
    simp [sumB] at h1
    simp only [sumB, List.getElem_map, List.getElem_range, scl]
    have e : sumAt [c, d] [xs, xs] [xs, xs].length i = (0 ^^^ gm c xs[i]) ^^^ gm d xs[i] := by
      show (0 ^^^ gm c (gb xs i)) ^^^ gm d (gb xs i) = _
      rw [gb_at h1]
    rw [e]; unfold ga
    rw [xor_gm]; simp
theorem lin_scl (c d : UInt8) (xs : List UInt8) : scl c (scl d xs) = scl (gm c d) xs := by
  unfold scl
  rw [List.map_map]
  apply List.map_congr_left
  intro x _
  exact gm_assoc c d x
theorem two_alike (xs : List UInt8) : Alike [xs, xs] := by intro r hr; simp at hr; simp [hr]

set_option maxHeartbeats 4000000 in
theorem GfLinear_walk (c d : UInt8) (w : World) (A : Option Addr) (xs : List UInt8) (cp : Nat) (hc : xs.length ≤ cp) (hr : KB.C w A xs.length (bs xs)) :
    Calls Try.prog 7 #[.int .u8 (c.toNat : Int), .int .u8 (d.toNat : Int), .slice A xs.length cp] w fun e w' => e = .returned (.bool true) ∧ Below w.heap.size w w' := by
  by_cases hl : 300 < xs.length
  · go_enter Try.func7, Try.ntmps7
    go_wp2_with fail
    refine (wakes07 _).mono ?_
    rintro e w0 ⟨rfl, hb0⟩
    go_wp2_with fail
    go_ret
    exact ⟨rfl, hb0⟩
  · have hx := u8_xor_all c d
    go_enter Try.func7, Try.ntmps7
    go_wp2_with fail
    refine (wakes07 _).mono ?_
    rintro e w0 ⟨rfl, hb0⟩
    go_wp2_with fail
    refine (make_calls _).mono ?_
    rintro e w1 ⟨rfl, ht, hs, hb1⟩
    have hb01 := below_then hb0 hb0.size hb1
    go_wp2_with fail
    have bW : Below w1.heap.size w1 ((w1.alloc (.cells #[.int .u8 (c.toNat : Int), .int .u8 (d.toNat : Int)] 5)).alloc (.cells #[.slice A xs.length cp, .slice A xs.length cp] 35)) :=
      ((Below.refl _ _).alloc (Nat.le_refl _) _).alloc (by simp) _
    have hrW := Kd.C_below (Kd.C_below hr hb01) bW
    have c1 : KB.C ((w1.alloc (.cells #[.int .u8 (c.toNat : Int), .int .u8 (d.toNat : Int)] 5)).alloc (.cells #[.slice A xs.length cp, .slice A xs.length cp] 35)) (some ⟨w1.heap.size, 0, none⟩) [c, d].length (bs [c, d]) :=
      C_of_cells [c, d] (by simp) (fun _ => ⟨_, rfl, fun j hj => by
        rw [add_at, World.cell?_alloc_lt _ _ _ (by simp), World.cell?_alloc_new]
        match j, hj with
        | 0, _ => rfl
        | 1, _ => rfl⟩)
    have c2 : KBB.C ((w1.alloc (.cells #[.int .u8 (c.toNat : Int), .int .u8 (d.toNat : Int)] 5)).alloc (.cells #[.slice A xs.length cp, .slice A xs.length cp] 35)) (some ⟨w1.heap.size + 1, 0, none⟩) [xs, xs].length (bss [xs, xs]) :=
      CC_of_cells [xs, xs] (by simp) (fun _ => ⟨_, rfl, fun j hj => ⟨A, cp, by
        rw [add_at]
        have e := World.cell?_alloc_new (w1.alloc (.cells #[.int .u8 (c.toNat : Int), .int .u8 (d.toNat : Int)] 5)) #[.slice A xs.length cp, .slice A xs.length cp] 35 j
        rw [World.size_alloc] at e
        rw [e]
        match j, hj with
        | 0, _ => rfl
        | 1, _ => rfl, by
        match j, hj with
        | 0, _ => exact hc
        | 1, _ => exact hc, by
        match j, hj with
        | 0, _ => exact hrW
        | 1, _ => exact hrW⟩⟩)
    have htW := ht.below hs bW
    refine (sum_okF _ _ [c, d] 2 2 _ [xs, xs] 2 2 _ rfl rfl htW (by simp; omega) c1 (by omega) c2 (by omega) rfl (two_alike xs) (by simp; omega)).mono ?_
    rintro e w2 ⟨B, dd, rfl, hB, hCB, hb2⟩
    rw [lin_sum, scl_length] at hB hCB ⊢
    have htr := htW.below (by simp; omega) hb2
    have hr2 := Kd.C_below hrW hb2
    have hsz2 : w1.heap.size < w2.heap.size := by have := hb2.size; simp at this; omega
    clear c1 c2
    go_wp2_with fail
    refine (scale_F _ (ga c d) A xs xs.length cp _ rfl htr (by omega) hr2 hc (by omega)).mono ?_
    rintro e w3 ⟨B3, d3, rfl, hB3, hC3, hb3⟩
    have hCB3 := Kd.C_below hCB hb3
    have htr3 := htr.below (by omega) hb3
    have hr3 := Kd.C_below hr2 hb3
    have hsz3 : w1.heap.size < w3.heap.size := by have := hb3.size; omega
    go_wp2_with fail
    refine (same_T B (scl (ga c d) xs) _ dd B3 _ d3 _ hCB3 hB hC3 hB3).mono ?_
    rintro e w4 ⟨rfl, ⟨m4, rfl⟩⟩
    go_wp2_with fail
    refine (scale_F _ d A xs xs.length cp _ rfl (htr3.drewN _) (by simpa using by omega) hr3 hc (by omega)).mono ?_
    rintro e w5 ⟨B5, d5, rfl, hB5, hC5, hb5⟩
    have htr5 := (htr3.drewN m4).below (by simpa using (by omega : w0.heap.size < w3.heap.size)) hb5
    have hr5 : KB.C w5 A xs.length (bs xs) := Kd.C_below (w := w3.drewN m4) hr3 hb5
    have hsz5 : w3.heap.size ≤ w5.heap.size := hb5.size
    go_wp2_with fail
    refine (scale_F _ c B5 (scl d xs) xs.length d5 _ (by simp) htr5 (by omega) hC5 hB5 (by omega)).mono ?_
    rintro e w6 ⟨B6, d6, rfl, hB6, hC6, hb6⟩
    rw [lin_scl] at hC6
    have htr6 := htr5.below (by omega) hb6
    have hr6 := Kd.C_below hr5 hb6
    have hsz6 : w5.heap.size ≤ w6.heap.size := hb6.size
    go_wp2_with fail
    refine (mul_calls _ c d _ htr6).mono ?_
    rintro e w7 ⟨rfl, ⟨m7, rfl⟩⟩
    go_wp2_with fail
    refine (scale_F _ (gm c d) A xs xs.length cp _ rfl (htr6.drewN _) (by simpa using (by omega : w0.heap.size < w6.heap.size)) hr6 hc (by omega)).mono ?_
    rintro e w8 ⟨B8, d8, rfl, hB8, hC8, hb8⟩
    have hC68 : KB.C w8 B6 xs.length (bs (scl (gm c d) xs)) := Kd.C_below (w := w6.drewN m7) hC6 hb8
    go_wp2_with fail
    refine (same_T B6 (scl (gm c d) xs) _ d6 B8 _ d8 _ hC68 hB6 hC8 hB8).mono ?_
    rintro e w9 ⟨rfl, ⟨m9, rfl⟩⟩
    go_wp2_with fail
    go_ret
    have b2 := below_then hb01 hb01.size (bW.trans (hb2.mono (by simp; omega)))
    have b3 := below_then b2 b2.size hb3
    have b5 := below_then (pw_below_drewN b3 m4) (by simpa using b3.size) hb5
    have b6 := below_then b5 b5.size hb6
    have b8 := below_then (pw_below_drewN b6 m7) (by simpa using b6.size) hb8
    exact ⟨rfl, pw_below_drewN b8 _⟩
end Go.Proofs.Ytoijjlpkoniipaa
end
section
/- Sum, the program's and the document's, at any texts: one answer. -/
namespace Go.Proofs.Ytoijjlpkoniipaa
open Go.RowKit Go.Proofs.YtoijjlpkoniipaaW.PrintWords Gf Lin PRsEncode

open Classical in
/-- What a sum is, and its error. -/
noncomputable def docSum (cs : List UInt8) (m : List (List UInt8)) : List UInt8 × Int := if cs.length = m.length ∧ Alike m then (sumB cs m, 0) else ([], 14)
theorem docSum_ok {cs : List UInt8} {m : List (List UInt8)} (hl : cs.length = m.length) (ha : Alike m) : docSum cs m = (sumB cs m, 0) := by unfold docSum; rw [if_pos ⟨hl, ha⟩]
theorem docSum_no {cs : List UInt8} {m : List (List UInt8)} (h : ¬ (cs.length = m.length ∧ Alike m)) : docSum cs m = ([], 14) := by unfold docSum; rw [if_neg h]

/-- A slice value reads as these bytes. -/
def RB (w : World) (v : Value) (xs : List UInt8) : Prop := ∃ A c, v = .slice A xs.length c ∧ xs.length ≤ c ∧ KB.C w A xs.length (bs xs)
def RBB (w : World) (v : Value) (m : List (List UInt8)) : Prop := ∃ A c, v = .slice A m.length c ∧ m.length ≤ c ∧ KBB.C w A m.length (bss m)
theorem RB.below {w w1 : World} {v : Value} {xs : List UInt8} (h : RB w v xs) (hb : Below w.heap.size w w1) : RB w1 v xs := by
  obtain ⟨A, c, h1, h2, h3⟩ := h
  exact ⟨A, c, h1, h2, Kd.C_below h3 hb⟩
theorem RBB.below {w w1 : World} {v : Value} {m : List (List UInt8)} (h : RBB w v m) (hb : Below w.heap.size w w1) : RBB w1 v m := by
  obtain ⟨A, c, h1, h2, h3⟩ := h
  exact ⟨A, c, h1, h2, Kd.C_below h3 hb⟩
theorem RB.nil (w : World) : RB w (.slice none 0 0) [] := ⟨none, 0, rfl, Nat.le_refl _, C_of_cells [] (by simp) (fun h => by simp at h)⟩
theorem RBB.nil (w : World) : RBB w (.slice none 0 0) [] := ⟨none, 0, rfl, Nat.le_refl _, CC_of_cells [] (by simp) (fun h => by simp at h)⟩

theorem CC_len {w : World} {A : Option Addr} {m : List (List UInt8)} {n : Nat} (h : KBB.C w A n (bss m)) : m.length = n := by rw [← h.1, bss_length]

/-- The program's. -/
theorem sum_anyN (g : Nat) (A : Option Addr) (cs : List UInt8) (n c : Nat) (A' : Option Addr) (m : List (List UInt8)) (n' c' : Nat) (w : World) (ht : Tab w g) (hg : g < w.heap.size)
    (hr : KB.C w A n (bs cs)) (hc : n ≤ c) (hr' : KBB.C w A' n' (bss m)) (hc' : n' ≤ c') (hn : ∀ r ∈ m, r.length ≤ 1000000) :
    Calls Try.prog 33 #[.pointer (some ⟨g, 0, none⟩), .slice A n c, .slice A' n' c'] w fun e w' =>
      ∃ v, e = .returned (.tuple #[v, .int .i64 (docSum cs m).2]) ∧ RB w' v (docSum cs m).1 ∧ Below w.heap.size w w' ∧ ∀ a q d, v = .slice (some a) q d → w.heap.size ≤ a.block := by
  have e1 := C_len hr
  have e2 := CC_len hr'
  subst e1; subst e2
  have hh : (m.headD []).length ≤ 1000000 := by
    cases m with
    | nil => simp
    | cons r t => exact hn r (by simp)
  by_cases hl : cs.length = m.length
  · by_cases ha : Alike m
    · rw [docSum_ok hl ha]
      refine (sum_okN g A cs c A' m c' w ht hg hr hc hr' hc' hl ha hh).mono ?_
      rintro e w' ⟨B, d, rfl, h1, h2, h3, h4⟩
      exact ⟨_, rfl, ⟨B, d, rfl, h1, h2⟩, h3, fun a q d' e => h4 a (by injection e)⟩
    · rw [docSum_no (fun h => ha h.2)]
      obtain ⟨b, hb0, hbm, h1, h2⟩ := not_alike ha
      refine (sum_bad g A cs c A' m c' w ht hg hr hc hr' hc' hl b hb0 hbm h1 h2 (by rw [gr_zero]; exact hh)).mono ?_
      rintro e w' ⟨rfl, hb⟩
      exact ⟨_, rfl, RB.nil _, hb, fun a q d' e => by cases e⟩
  · rw [docSum_no (fun h => hl h.1)]
    refine (sum_len g A cs.length c A' m.length c' w hl).mono ?_
    rintro e w' ⟨rfl, hb⟩
    exact ⟨_, rfl, RB.nil _, hb, fun a q d' e => by cases e⟩
theorem sum_any (g : Nat) (A : Option Addr) (cs : List UInt8) (n c : Nat) (A' : Option Addr) (m : List (List UInt8)) (n' c' : Nat) (w : World) (ht : Tab w g) (hg : g < w.heap.size)
    (hr : KB.C w A n (bs cs)) (hc : n ≤ c) (hr' : KBB.C w A' n' (bss m)) (hc' : n' ≤ c') (hn : ∀ r ∈ m, r.length ≤ 1000000) :
    Calls Try.prog 33 #[.pointer (some ⟨g, 0, none⟩), .slice A n c, .slice A' n' c'] w fun e w' =>
      ∃ v, e = .returned (.tuple #[v, .int .i64 (docSum cs m).2]) ∧ RB w' v (docSum cs m).1 ∧ Below w.heap.size w w' := by
  refine (sum_anyN g A cs n c A' m n' c' w ht hg hr hc hr' hc' hn).mono ?_
  rintro e w' ⟨v, h1, h2, h3, _⟩
  exact ⟨v, h1, h2, h3⟩
/-- The document's. -/
theorem ref_sum_any (A : Option Addr) (cs : List UInt8) (n c : Nat) (A' : Option Addr) (m : List (List UInt8)) (n' c' : Nat) (w : World)
    (hr : KB.C w A n (bs cs)) (hc : n ≤ c) (hr' : KBB.C w A' n' (bss m)) (hc' : n' ≤ c') (hm : m.length ≤ 1000) (hn : ∀ r ∈ m, r.length ≤ 1000000) :
    Calls Try.prog 34 #[.slice A n c, .slice A' n' c'] w fun e w' =>
      ∃ v, e = .returned (.tuple #[v, .int .i64 (docSum cs m).2]) ∧ RB w' v (docSum cs m).1 ∧ Below w.heap.size w w' := by
  have e1 := C_len hr
  have e2 := CC_len hr'
  subst e1; subst e2
  have hh : (m.headD []).length ≤ 1000000 := by
    cases m with
    | nil => simp
    | cons r t => exact hn r (by simp)
  have key : ∃ k, scriniumref07_Sum.f k (bs cs) (bss m) = some (bs (docSum cs m).1, (docSum cs m).2) := by
    by_cases hl : cs.length = m.length
    · by_cases ha : Alike m
      · rw [docSum_ok hl ha]; exact ⟨_, sum_eq cs m hl ha hm hh _ (Nat.le_refl _)⟩
      · rw [docSum_no (fun h => ha h.2)]; exact ⟨_, sum_eq_bad cs m hm ha (m.length + 1) (by omega)⟩
    · rw [docSum_no (fun h => hl h.1)]; exact ⟨1, sum_eq_len cs m hl 1⟩
  obtain ⟨k, hk⟩ := key
  have h := scriniumref07_Sum.calls k A c (bs cs) A' c' (bss m) _ _ w (by rw [bs_length]; exact hr) (by rw [bs_length]; exact hc) (by rw [bss_length]; exact hr') (by rw [bss_length]; exact hc') hk
  rw [bs_length, bss_length] at h
  refine h.mono ?_
  rintro e w' ⟨v, rfl, hs, hb⟩
  exact ⟨v, rfl, C_of_R hs, hb⟩
/-- v[k:k+1]. -/
theorem mid_slice {t e : TypeId} {i : TypeInfo} (ht : Try.prog.underlying t = some (.slice e)) (hi : Try.prog.info? e = some i) (hsz : i.size = 1) (ad : Addr) (n c k : Nat) (hk : k < n) (hn : n ≤ c) :
    ∀ W : World, (Instr.slice t (.slice (some ad) n c) (some (.int .i64 (k : Int))) (some (.int .i64 ((k : Int) + 1))) none).run Try.prog W = .ok (.slice (some (ad.add k)) 1 (c - k)) W := by
  intro W
  have hel : Try.prog.elem t = e := by simp [Program.elem, ht]
  have hu : Try.prog.underlying t = some (.slice (Try.prog.elem t)) := by rw [hel]; exact ht
  rw [run_slice_lh W t (some ad) n c hu .i64 .i64 (k : Int) ((k : Int) + 1) (by omega) (by omega) (by omega), hel]
  have hne : ¬ c = k := by omega
  simp [sizeOf, typeInfo, hi, hsz, sliced, Result.andThen, hne]
theorem add_of_add (a : Addr) (i j : Nat) : (a.add i).add j = a.add (i + j) := by
  unfold Addr.add
  by_cases hi : i = 0 <;> by_cases hj : j = 0 <;> simp [hi, hj, Nat.add_assoc]
theorem C_mid {w : World} {ad : Addr} {xs : List UInt8} {n k : Nat} (h : KB.C w (some ad) n (bs xs)) (hk : k < n) : KB.C w (some (ad.add k)) 1 (bs [gb xs k]) := by
  refine C_of_cells (A := some (ad.add k)) [gb xs k] (by simp) (fun _ => ⟨_, rfl, fun j hj => ?_⟩)
  have hj0 : j = 0 := by simpa using hj
  subst hj0
  obtain ⟨ad', he, hc⟩ := C_byteD h hk
  cases he
  rw [add_of_add, Nat.add_zero, hc]; rfl
theorem CC_mid {w : World} {ad : Addr} {m : List (List UInt8)} {n k : Nat} (h : KBB.C w (some ad) n (bss m)) (hk : k < n) : KBB.C w (some (ad.add k)) 1 (bss [gr m k]) := by
  have e := CC_len h
  subst e
  refine CC_of_cells (A := some (ad.add k)) [gr m k] (by simp) (fun _ => ⟨_, rfl, fun j hj => ?_⟩)
  have hj0 : j = 0 := by simpa using hj
  subst hj0
  obtain ⟨ad', B, c, he, hc, h2, h3⟩ := C_rowD h hk
  cases he
  rw [add_of_add, Nat.add_zero]
  exact ⟨B, c, hc, h2, h3⟩
theorem one_sum (c : UInt8) (r : List UInt8) : docSum [c] [r] = (scl c r, 0) := by
  rw [docSum_ok rfl (by intro x hx; simp at hx; simp [hx])]
  congr 1
  apply List.ext_getElem
  · simp [sumB]
  · intro i h1 h2
    simp [sumB] at h1
    simp only [sumB, List.getElem_map, List.getElem_range, scl]
    show 0 ^^^ gm c (gb r i) = _
    rw [gb_at h1]; simp
end Go.Proofs.Ytoijjlpkoniipaa
end
