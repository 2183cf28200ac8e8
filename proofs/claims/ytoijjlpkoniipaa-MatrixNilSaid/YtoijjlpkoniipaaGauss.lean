/- Clearing a matrix column by column, what it gives and where it fails; the kernel of a Cauchy matrix. Plain, no program in sight, no condition. -/
import Derived.Test.YtoijjlpkoniipaaLin
namespace Go.Proofs.Ytoijjlpkoniipaa.Lin
open Gf

/-! ### One column cleared -/
/-- Behind the exchange and the multiple. -/
def pre (row at_ col : Nat) (m l : M) : M := scaleRow row (gi (m at_ col)) (swapRow row at_ l)
/-- The first i rows (but that one) have a multiple of that row added: w tells the multiples. -/
def part (row i : Nat) (w : Nat → UInt8) (m : M) : M := fun a j => if a < i ∧ a ≠ row then m a j ^^^ gm (w a) (m row j) else m a j
/-- All of it: m decides, l goes along. -/
def clr (n row at_ col : Nat) (m l : M) : M := part row n (fun a => pre row at_ col m m a col) (pre row at_ col m l)

theorem part_zero (row : Nat) (w : Nat → UInt8) (m : M) : part row 0 w m = m := by funext a j; unfold part; simp
theorem part_row (row i : Nat) (w : Nat → UInt8) (m : M) (j : Nat) : part row i w m row j = m row j := by unfold part; simp
theorem part_from (row i : Nat) (w : Nat → UInt8) (m : M) {a : Nat} (h : i ≤ a) (j : Nat) : part row i w m a j = m a j := by unfold part; rw [if_neg (by omega)]
theorem part_succ_row (row : Nat) (w : Nat → UInt8) (m : M) : part row (row + 1) w m = part row row w m := by
  funext a j; unfold part
  by_cases h : a < row
  · rw [if_pos (by omega), if_pos (by omega)]
  · rw [if_neg (by omega), if_neg (by omega)]
theorem part_succ {row i : Nat} (hi : i ≠ row) (w : Nat → UInt8) (m : M) : part row (i + 1) w m = addRow i row (w i) (part row i w m) := by
  funext a j
  unfold addRow
  by_cases h : a = i
  · subst h
    rw [if_pos rfl, part_from row a w m (Nat.le_refl _), part_row]
    unfold part
    rw [if_pos ⟨by omega, hi⟩]
  · rw [if_neg h]
    unfold part
    by_cases h2 : a < i ∧ a ≠ row
    · rw [if_pos h2, if_pos ⟨by omega, h2.2⟩]
    · rw [if_neg h2, if_neg (by omega)]

theorem Rel.part {n row : Nat} {A B m l : M} (hr : row < n) (w : Nat → UInt8) (h : Rel n A B m l) : ∀ i, i ≤ n → Rel n A B (Lin.part row i w m) (Lin.part row i w l) := by
  intro i
  induction i with
  | zero => intro _; rw [part_zero, part_zero]; exact h
  | succ i ih =>
    intro hi
    by_cases hir : i = row
    · subst hir
      rw [part_succ_row, part_succ_row]
      exact ih (by omega)
    · rw [part_succ hir, part_succ hir]
      exact (ih (by omega)).add hr (by omega) hir _

theorem Rel.clr {n row at_ col : Nat} {A B m l : M} (h : Rel n A B m l) (hr : row < n) (ha : at_ < n) (hne : m at_ col ≠ 0) : Rel n A B (Lin.clr n row at_ col m m) (Lin.clr n row at_ col m l) :=
  ((h.swap hr ha).scale (gi_ne_zero hne)).part hr _ n (Nat.le_refl _)

/-- Column p t is the unit's t-th, for t < r. -/
def Cols (n r : Nat) (p : Nat → Nat) (m : M) : Prop := ∀ t, t < r → ∀ i, i < n → m i (p t) = unit i t

theorem pre_row (row at_ col : Nat) (m l : M) (j : Nat) : pre row at_ col m l row j = gm (gi (m at_ col)) (l at_ j) := by unfold pre scaleRow swapRow; simp
theorem pre_at (row at_ col : Nat) (m l : M) (j : Nat) (h : at_ ≠ row) : pre row at_ col m l at_ j = l row j := by unfold pre scaleRow swapRow; simp [h]
theorem pre_other (row at_ col : Nat) (m l : M) (i j : Nat) (h : i ≠ row) (h' : i ≠ at_) : pre row at_ col m l i j = l i j := by unfold pre scaleRow swapRow; simp [h, h']

theorem clr_row (n row at_ col : Nat) (m l : M) (j : Nat) : Lin.clr n row at_ col m l row j = gm (gi (m at_ col)) (l at_ j) := by unfold Lin.clr; rw [part_row, pre_row]
theorem clr_other {n row at_ col i : Nat} (m l : M) (j : Nat) (hi : i < n) (h : i ≠ row) :
    Lin.clr n row at_ col m l i j = pre row at_ col m l i j ^^^ gm (pre row at_ col m m i col) (gm (gi (m at_ col)) (l at_ j)) := by
  unfold Lin.clr; unfold Lin.part; rw [if_pos ⟨hi, h⟩, pre_row]

theorem clr_cols {n row at_ col : Nat} {p : Nat → Nat} {m : M} (h : Cols n row p m) (hle : row ≤ at_) (ha : at_ < n) (hne : m at_ col ≠ 0) (hp : p row = col) :
    Cols n (row + 1) p (Lin.clr n row at_ col m m) := by
  intro t ht i hi
  have hunit : ∀ t, t < row → m at_ (p t) = 0 := fun t ht => by rw [h t ht at_ ha]; unfold unit; rw [if_neg (by omega)]
  by_cases hir : i = row
  · subst hir
    rw [clr_row]
    by_cases htr : t = i
    · subst htr; rw [hp, gi_gm hne]; simp [unit]
    · rw [hunit t (by omega), gm_zero_right]; unfold unit; rw [if_neg (by omega)]
  · rw [clr_other m m (p t) hi hir]
    by_cases htr : t = row
    · subst htr
      rw [hp, gi_gm hne, gm_one, UInt8.xor_self]; unfold unit; rw [if_neg hir]
    · rw [hunit t (by omega), gm_zero_right, gm_zero_right, UInt8.xor_zero]
      by_cases hia : i = at_
      · subst hia
        rw [pre_at _ _ _ _ _ _ hir, h t (by omega) row (by omega)]
        unfold unit; rw [if_neg (by omega), if_neg (by omega)]
      · rw [pre_other _ _ _ _ _ _ _ hir hia, h t (by omega) i hi]

/-- Columns ahead of col are 0 in the rows from r on. -/
def Low (n r col : Nat) (m : M) : Prop := ∀ i, r ≤ i → i < n → ∀ j, j < col → m i j = 0

theorem clr_low {n row at_ col : Nat} {m : M} (h : Low n row col m) (hr : row < n) (hle : row ≤ at_) (ha : at_ < n) (hne : m at_ col ≠ 0) : Low n (row + 1) (col + 1) (Lin.clr n row at_ col m m) := by
  intro i hri hi j hj
  have hir : i ≠ row := by omega
  rw [clr_other m m j hi hir]
  by_cases hjc : j = col
  · subst hjc
    rw [gi_gm hne, gm_one, UInt8.xor_self]
  · rw [h at_ hle ha j (by omega), gm_zero_right, gm_zero_right, UInt8.xor_zero]
    by_cases hia : i = at_
    · subst hia
      rw [pre_at _ _ _ _ _ _ hir]; exact h row (Nat.le_refl _) hr j (by omega)
    · rw [pre_other _ _ _ _ _ _ _ hir hia]; exact h i (by omega) hi j (by omega)

/-! ### Where a column can't be cleared -/
/-- A vector that isn't 0 and that m takes to 0. -/
theorem stuck_kernel {n i : Nat} {m : M} (hi : i < n) (h : Cols n i id m) (h0 : ∀ a, i ≤ a → a < n → m a i = 0) :
    ∃ x : Nat → UInt8, x i ≠ 0 ∧ ∀ a, a < n → sm n (fun j => gm (m a j) (x j)) = 0 := by
  refine ⟨fun j => if j < i then m j i else if j = i then 1 else 0, by simp, fun a ha => ?_⟩
  have e : ∀ k, k ≤ n → i < k → sm k (fun j => gm (m a j) (if j < i then m j i else if j = i then 1 else 0)) = sm i (fun j => gm (m a j) (m j i)) ^^^ m a i := by
    intro k
    induction k with
    | zero => intro _ h; omega
    | succ k ih =>
      intro hk hik
      simp only [sm]
      by_cases hki : k = i
      · subst hki
        simp only [Nat.lt_irrefl, if_false, if_true, gm_one]
        congr 1
        exact sm_congr fun j hj => by rw [if_pos hj]
      · rw [ih (by omega) (by omega), if_neg (by omega), if_neg hki, gm_zero_right, UInt8.xor_zero]
  rw [e n (Nat.le_refl _) hi]
  have h : ∀ t, t < i → ∀ a, a < n → m a t = unit a t := h
  by_cases hai : a < i
  · rw [sm_one hai (fun j hj hja => by rw [h j hj a ha]; unfold unit; rw [if_neg (by omega), gm_zero_left]), h a hai a ha]
    simp only [unit, if_true, one_gm, UInt8.xor_self]
  · rw [h0 a (by omega) ha, sm_zero (fun j hj => by rw [h j hj a ha]; unfold unit; rw [if_neg (by omega), gm_zero_left])]
    rfl

theorem Ind.le {r k : Nat} {U : M} (h : Ind r k U) : r ≤ k := steinitz h fun i _ => sp_unit k (U i)
theorem rank_lt {n k r i : Nat} {A : M} (h : IsRank n k A r) {x : Nat → UInt8} (hi : i < k) (hx : x i ≠ 0) (h0 : ∀ a, a < n → sm k (fun j => gm (A a j) (x j)) = 0) : r < k := by
  obtain ⟨U, hU, hsp, _⟩ := h
  obtain ⟨q, rfl⟩ : ∃ q, k = q + 1 := ⟨k - 1, by omega⟩
  have hUx : ∀ a, a < r → sm (q + 1) (fun j => gm (U a j) (x j)) = 0 := by
    intro a ha
    obtain ⟨c, hc⟩ := hsp a ha
    have e : sm (q + 1) (fun j => gm (U a j) (x j)) = sm (q + 1) (fun j => gm (sm n (fun t => gm (c t) (A t j))) (x j)) := sm_congr fun j hj => by rw [hc j hj]
    have e2 : sm (q + 1) (fun j => gm (sm n (fun t => gm (c t) (A t j))) (x j)) = sm n (fun t => gm (c t) (sm (q + 1) (fun j => gm (A t j) (x j)))) :=
      (comb_comb n (q + 1) c (fun t j => A t j) (fun j _ => x j) 0).symm
    rw [e, e2]
    exact sm_zero fun t ht => by rw [h0 t ht, gm_zero_right]
  have hI : Ind r q (fun a j => U a (skip i j)) := by
    intro c hc a ha
    refine hU c (fun j hj => ?_) a ha
    have hsk : ∀ j, j < q + 1 → j ≠ i → sm r (fun a => gm (c a) (U a j)) = 0 := fun j hj hji => by
      rcases Nat.lt_or_ge j i with hlt | hge
      · have := hc j (by omega)
        simp only [skip, if_pos hlt] at this
        exact this
      · have := hc (j - 1) (by omega)
        simp only [skip] at this
        rw [if_neg (by omega), show j - 1 + 1 = j by omega] at this
        exact this
    by_cases hji : j = i
    · subst hji
      have e3 : sm (q + 1) (fun t => gm (sm r (fun a => gm (c a) (U a t))) (x t)) = 0 := by
        have e4 : sm (q + 1) (fun t => gm (sm r (fun a => gm (c a) (U a t))) (x t)) = sm r (fun a => gm (c a) (sm (q + 1) (fun t => gm (U a t) (x t)))) :=
          (comb_comb r (q + 1) c (fun a t => U a t) (fun t _ => x t) 0).symm
        rw [e4]
        exact sm_zero fun a ha => by rw [hUx a ha, gm_zero_right]
      rw [sm_one hj (fun t ht htj => by rw [hsk t ht htj, gm_zero_left])] at e3
      rcases gm_eq_zero.1 e3 with e | e
      · exact e
      · exact absurd e hx
    · exact hsk j hj hji
  have := hI.le
  omega

/-! ### All columns cleared: how many rows aren't sums of others -/
theorem Cols.ind {n r k : Nat} {p : Nat → Nat} {m : M} (h : Cols n r p m) (hr : r ≤ n) (hp : ∀ t, t < r → p t < k) : Ind r k m := by
  intro c hc t ht
  have := hc (p t) (hp t ht)
  rw [sm_one ht (fun i hi hit => by rw [h t ht i (by omega)]; unfold unit; rw [if_neg hit, gm_zero_right]), h t ht t (by omega)] at this
  simpa [unit, gm_one] using this
theorem rank_done {n r k : Nat} {p : Nat → Nat} {m : M} (h : Cols n r p m) (hr : r ≤ n) (hp : ∀ t, t < r → p t < k) (hl : Low n r k m ∨ r = n) : IsRank n k m r :=
  ⟨m, h.ind hr hp, fun i hi => Sp.self (by omega), fun i hi => by
    by_cases hir : i < r
    · exact Sp.self hir
    · rcases hl with hl | hl
      · exact Sp.zero (hl i (by omega) hi)
      · omega⟩
theorem Cols.congr {n r : Nat} {p q : Nat → Nat} {m : M} (h : Cols n r p m) (hq : ∀ t, t < r → q t = p t) : Cols n r q m := fun t ht i hi => by rw [hq t ht]; exact h t ht i hi
/-- A matrix with an inverse has no row that is a sum of others. -/
theorem rank_unit (n : Nat) : IsRank n n unit n := ⟨unit, ind_unit n, fun i hi => Sp.self hi, fun i hi => Sp.self hi⟩
theorem inverse_rank {n r : Nat} {A B : M} (h : IsRank n n A r) (hu : ∀ i, i < n → ∀ j, j < n → mul n B A i j = unit i j) : r = n := by
  have h1 : IsRank n n (fun i j => sm n (fun t => gm (B i t) (A t j))) n := by
    refine (rank_unit n).of_rows (fun i hi => ?_) (fun i hi => ?_)
    · exact (Sp.self (V := fun i j => sm n (fun t => gm (B i t) (A t j))) hi).congr (fun j hj => (hu i hi j hj).symm)
    · exact (Sp.self (V := unit) hi).congr (fun j hj => hu i hi j hj)
  have := h1.mul_right h
  have := h.le_rows
  omega
/-! ### Cauchy -/
theorem gi_sum {u v : UInt8} (hu : u ≠ 0) (hv : v ≠ 0) : gi u ^^^ gi v = gm (u ^^^ v) (gm (gi u) (gi v)) := by
  rw [gm_comm (u ^^^ v), gm_xor, gm_comm (gm (gi u) (gi v)) u, gm_assoc, gm_gi hu, gm_comm (gm (gi u) (gi v)) v, gm_comm (gi u) (gi v), gm_assoc, gm_gi hv, gm_comm 1, gm_one, gm_comm 1, gm_one, UInt8.xor_comm]
theorem xor_ne {a b : UInt8} (h : a ≠ b) : a ^^^ b ≠ 0 := fun e => h (xor_eq_zero e)
theorem cauchy_kernel : ∀ (k : Nat) (a b x : Nat → UInt8), (∀ i j, i < k → j < k → i ≠ j → a i ≠ a j) → (∀ i j, i < k → j < k → i ≠ j → b i ≠ b j) → (∀ i j, i < k → j < k → a i ≠ b j) →
    (∀ i, i < k → sm k (fun j => gm (gi (a i ^^^ b j)) (x j)) = 0) → ∀ j, j < k → x j = 0
  | 0, _, _, _, _, _, _, _, j, hj => by omega
  | k + 1, a, b, x, ha, hb, hab, h, j, hj => by
    have hT : ∀ i, i < k + 1 → sm k (fun j => gm (gi (a i ^^^ b j)) (gm (b j ^^^ b k) (x j))) = sm (k + 1) x := by
      intro i hi
      have e1 : gm (a i ^^^ b k) (sm (k + 1) (fun j => gm (gi (a i ^^^ b j)) (x j))) = sm (k + 1) (fun j => x j ^^^ gm (gi (a i ^^^ b j)) (gm (b j ^^^ b k) (x j))) := by
        rw [gm_sm]
        refine sm_congr fun j hj => ?_
        have hne := xor_ne (hab i j hi hj)
        have e2 : a i ^^^ b k = (a i ^^^ b j) ^^^ (b j ^^^ b k) := by
          rw [UInt8.xor_assoc, ← UInt8.xor_assoc (b j), UInt8.xor_self, UInt8.zero_xor]
        have e3 : gm (a i ^^^ b k) (gi (a i ^^^ b j)) = 1 ^^^ gm (gi (a i ^^^ b j)) (b j ^^^ b k) := by
          rw [e2, gm_comm, gm_xor, gm_comm _ (a i ^^^ b j), gm_gi hne]
        rw [gm_assoc, e3, gm_comm, gm_xor, gm_one, gm_comm (x j) (gm _ _), ← gm_assoc]
      rw [h i hi, gm_zero_right, sm_xor] at e1
      have e4 : sm (k + 1) (fun j => gm (gi (a i ^^^ b j)) (gm (b j ^^^ b k) (x j))) = sm k (fun j => gm (gi (a i ^^^ b j)) (gm (b j ^^^ b k) (x j))) := by
        show sm k _ ^^^ gm (gi (a i ^^^ b k)) (gm (b k ^^^ b k) (x k)) = _
        rw [UInt8.xor_self, gm_zero_left, gm_zero_right, UInt8.xor_zero]
      rw [e4] at e1
      exact (xor_eq_zero e1.symm).symm
    have hx' : ∀ j, j < k → gm (gi (a k ^^^ b j)) (gm (b j ^^^ b k) (x j)) = 0 := by
      refine cauchy_kernel k a b _ (fun i j hi hj => ha i j (by omega) (by omega)) (fun i j hi hj => hb i j (by omega) (by omega)) (fun i j hi hj => hab i j (by omega) (by omega)) (fun i hi => ?_)
      have e5 : sm k (fun j => gm (gi (a i ^^^ b j)) (gm (b j ^^^ b k) (x j))) ^^^ sm k (fun j => gm (gi (a k ^^^ b j)) (gm (b j ^^^ b k) (x j))) = 0 := by
        rw [hT i (by omega), hT k (by omega), UInt8.xor_self]
      rw [← sm_xor] at e5
      have e6 : sm k (fun j => gm (gi (a i ^^^ b j)) (gm (b j ^^^ b k) (x j)) ^^^ gm (gi (a k ^^^ b j)) (gm (b j ^^^ b k) (x j))) = gm (a i ^^^ a k) (sm k (fun j => gm (gi (a i ^^^ b j)) (gm (gi (a k ^^^ b j)) (gm (b j ^^^ b k) (x j))))) := by
        rw [gm_sm]
        refine sm_congr fun j hj => ?_
        have hu := xor_ne (hab i j (by omega) (by omega))
        have hv := xor_ne (hab k j (by omega) (by omega))
        have huv : (a i ^^^ b j) ^^^ (a k ^^^ b j) = a i ^^^ a k := by
          rw [UInt8.xor_comm (a k), UInt8.xor_assoc, ← UInt8.xor_assoc (b j) (b j), UInt8.xor_self, UInt8.zero_xor]
        rw [gm_comm (gi _), gm_comm (gi _), ← gm_xor, gi_sum hu hv, huv, gm_comm, ← gm_assoc, ← gm_assoc, gm_comm (gi (a k ^^^ b j))]
      rw [e6] at e5
      rcases gm_eq_zero.1 e5 with e | e
      · exact absurd (xor_eq_zero e) (ha i k (by omega) (by omega) (by omega))
      · exact e
    have hlow : ∀ j, j < k → x j = 0 := fun j hj => by
      rcases gm_eq_zero.1 (hx' j hj) with e | e
      · exact absurd e (gi_ne_zero (xor_ne (hab k j (by omega) (by omega))))
      · rcases gm_eq_zero.1 e with e | e
        · exact absurd (xor_eq_zero e) (hb j k (by omega) (by omega) (by omega))
        · exact e
    by_cases hjk : j < k
    · exact hlow j hjk
    · obtain rfl : j = k := by omega
      have := h j (by omega)
      rw [sm_one (i := j) (by omega) (fun t ht htj => by rw [hlow t (by omega), gm_zero_right])] at this
      rcases gm_eq_zero.1 this with e | e
      · exact absurd e (gi_ne_zero (xor_ne (hab j j (by omega) (by omega))))
      · exact e

end Go.Proofs.Ytoijjlpkoniipaa.Lin
