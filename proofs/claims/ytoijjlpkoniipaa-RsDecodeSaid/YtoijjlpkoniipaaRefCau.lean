/- What the document's Cauchy comes to, over bytes (over the print's plain functions). Plain; no condition. -/
import Derived.Test.YtoijjlpkoniipaaEv
set_option linter.unusedVariables false
set_option linter.unusedSimpArgs false
namespace Go.Proofs.Ytoijjlpkoniipaa
open Go.RowKit Go.Proofs.YtoijjlpkoniipaaW.PrintWords Gf Lin
/-- A Cauchy matrix, and its error. -/
def docCau (n k : Int) : List (List UInt8) × Int := if 1 ≤ n ∧ 1 ≤ k ∧ n ≤ 255 ∧ k ≤ 255 ∧ n + k ≤ 256 then (rowsOf n.toNat k.toNat (cau k.toNat), 0) else ([], 14)
theorem docCau_ok {n k : Nat} (h1 : 1 ≤ n) (h2 : 1 ≤ k) (h3 : n + k ≤ 256) : docCau (n : Int) (k : Int) = (rowsOf n k (cau k), 0) := by
  unfold docCau; rw [if_pos (by omega)]; simp
theorem docCau_no {n k : Int} (h : ¬ (1 ≤ n ∧ 1 ≤ k ∧ n ≤ 255 ∧ k ≤ 255 ∧ n + k ≤ 256)) : docCau n k = ([], 14) := by unfold docCau; rw [if_neg h]
theorem nat_xor_lt {a b : Nat} (ha : a < 256) (hb : b < 256) : a ^^^ b < 256 := Nat.xor_lt_two_pow (n := 8) ha hb
theorem xor64_all (a b : Nat) (ha : a < 256) (hb : b < 256) : bits .xor .i64 (a : Int) (b : Int) = ((a ^^^ b : Nat) : Int) := by
  have e : ∀ x : Nat, x < 256 → (BitVec.ofInt 64 (x : Int)).toNat = x := fun x hx => by
    rw [BitVec.ofInt_natCast, BitVec.toNat_ofNat]; omega
  show IntKind.i64.wrap ((BitVec.ofInt 64 (a : Int) ^^^ BitVec.ofInt 64 (b : Int)).toNat : Int) = _
  rw [BitVec.toNat_xor, e a ha, e b hb]
  have := nat_xor_lt ha hb
  rw [IntKind.wrap_i64]
  omega
theorem xor64_u8 (a b : Nat) (ha : a < 256) (hb : b < 256) : (bits .xor .i64 (a : Int) (b : Int)) % 256 = ((UInt8.ofNat a ^^^ UInt8.ofNat b).toNat : Int) := by
  rw [xor64_all a b ha hb, UInt8.toNat_xor, UInt8.toNat_ofNat_of_lt' ha, UInt8.toNat_ofNat_of_lt' hb]
  have := nat_xor_lt ha hb
  omega
namespace PRsEncode
section
variable {n k : Nat} (h : n + k ≤ 256) (hk1 : 1 ≤ k)
include h hk1
theorem cau_l1 (out : List (List UInt8)) (hout : out.length ≤ 255) {i : Nat} (hi : i < n) {R : List (List Int) × Int}
    (H : Ev (fun q => scriniumref08_Cauchy.l0 q (n : Int) (k : Int) (bss (out ++ [(List.range k).map (cau k i)])) ((i + 1 : Nat) : Int)) R) (d : Nat) :
    ∀ j : Nat, k - j = d → j ≤ k → Ev (fun q => scriniumref08_Cauchy.l1 q (n : Int) (k : Int) (bss out) (i : Int) (bs ((List.range j).map (cau k i))) (j : Int)) R := by
  induction d with
  | zero =>
    intro j hd hj
    have : j = k := by omega
    subst this
    refine H.step fun q => ?_
    conv => lhs; unfold scriniumref08_Cauchy.l1
    rw [if_neg (by omega), bss_length, if_pos (by omega), bss_append, wrap_succ (by omega)]
  | succ d ih =>
    intro j hd hj
    have h1 := ih (j + 1) (by omega) (by omega)
    rw [range_map_succ] at h1
    refine (inv_ev (UInt8.ofNat (i + k) ^^^ UInt8.ofNat j)).step1 h1 fun q hq => ?_
    conv => lhs; unfold scriniumref08_Cauchy.l1
    rw [if_pos (by omega), show wrap64 ((i : Int) + (k : Int)) = ((i + k : Nat) : Int) by unfold wrap64; omega, xor64_u8 _ _ (by omega) (by omega), hq]
    simp only [Option.bind_some]
    rw [bs_length, if_pos (by simp; omega), wrap_succ (by omega)]
    show scriniumref08_Cauchy.l1 q _ _ _ _ (bs _ ++ [((cau k i j).toNat : Int)]) _ = _
    rw [bs_append]
theorem cau_l0 (d : Nat) : ∀ i : Nat, n - i = d → i ≤ n → Ev (fun q => scriniumref08_Cauchy.l0 q (n : Int) (k : Int) (bss (rowsOf i k (cau k))) (i : Int)) (bss (rowsOf n k (cau k)), 0) := by
  induction d with
  | zero =>
    intro i hd hi
    have : i = n := by omega
    subst this
    refine Ev.done fun q => ?_
    conv => lhs; unfold scriniumref08_Cauchy.l0
    rw [if_neg (by omega)]
  | succ d ih =>
    intro i hd hi
    have h1 := ih (i + 1) (by omega) (by omega)
    rw [rowsOf_succ] at h1
    refine (cau_l1 h hk1 (rowsOf i k (cau k)) (by simp; omega) (by omega) h1 k 0 (by omega) (by omega)).step fun q => ?_
    conv => lhs; unfold scriniumref08_Cauchy.l0
    rw [if_pos (by omega)]
    rfl
end
theorem cau_ok {n k : Nat} (h1 : 1 ≤ n) (h2 : 1 ≤ k) (h : n + k ≤ 256) : Ev (fun q => scriniumref08_Cauchy.f q (n : Int) (k : Int)) (bss (rowsOf n k (cau k)), 0) := by
  refine (cau_l0 h h2 n 0 (by omega) (by omega)).step fun q => ?_
  unfold scriniumref08_Cauchy.f
  rw [if_neg (by omega), if_neg (by omega), if_neg (by omega), if_neg (by omega), show wrap64 ((n : Int) + (k : Int)) = ((n + k : Nat) : Int) by unfold wrap64; omega, decide_eq_false (by omega)]
  simp only [scriniumref08_Cauchy.j0]
  rfl
theorem cau_no {n k : Int} (h : ¬ (1 ≤ n ∧ 1 ≤ k ∧ n ≤ 255 ∧ k ≤ 255 ∧ n + k ≤ 256)) : Ev (fun q => scriniumref08_Cauchy.f q n k) ([], 14) := by
  have e : ∀ q, scriniumref08_Cauchy.j0 (q + 1) n k true = some ([], 14) := fun q => by simp [scriniumref08_Cauchy.j0]
  refine Ev.done fun q => ?_
  unfold scriniumref08_Cauchy.f
  by_cases h1 : n < 1
  · rw [if_pos h1, e]
  by_cases h2 : k < 1
  · rw [if_neg h1, if_pos h2, e]
  by_cases h3 : n > 255
  · rw [if_neg h1, if_neg h2, if_pos h3, e]
  by_cases h4 : k > 255
  · rw [if_neg h1, if_neg h2, if_neg h3, if_pos h4, e]
  rw [if_neg h1, if_neg h2, if_neg h3, if_neg h4, show wrap64 (n + k) = n + k by unfold wrap64; omega, decide_eq_true (by omega), e]
theorem cau_ev (n k : Int) : Ev (fun q => scriniumref08_Cauchy.f q n k) (bss (docCau n k).1, (docCau n k).2) := by
  by_cases h : 1 ≤ n ∧ 1 ≤ k ∧ n ≤ 255 ∧ k ≤ 255 ∧ n + k ≤ 256
  · obtain ⟨a, rfl⟩ : ∃ a : Nat, n = (a : Int) := ⟨n.toNat, by omega⟩
    obtain ⟨b, rfl⟩ : ∃ b : Nat, k = (b : Int) := ⟨k.toNat, by omega⟩
    rw [docCau_ok (by omega) (by omega) (by omega)]
    exact cau_ok (by omega) (by omega) (by omega)
  · rw [docCau_no h]; exact cau_no h
end PRsEncode
/-- The document's. -/
theorem ref_cauchy (n k : Int) (w : World) : Calls Try.prog 58 #[.int .i64 n, .int .i64 k] w fun e w' => ∃ v, e = .returned (.tuple #[v, .int .i64 (docCau n k).2]) ∧ RBB w' v (docCau n k).1 ∧ Below w.heap.size w w' := by
  obtain ⟨q, hq⟩ := (PRsEncode.cau_ev n k).at
  refine (PRsEncode.scriniumref08_Cauchy.calls q n k _ _ w hq).mono ?_
  rintro e w' ⟨v, rfl, hs, hb⟩
  obtain ⟨A, c, rfl, h1, h2⟩ := C_of_S hs
  exact ⟨_, rfl, ⟨A, c, rfl, h1, h2⟩, hb⟩
end Go.Proofs.Ytoijjlpkoniipaa
